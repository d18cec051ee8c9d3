/- Proved here: parts of the proof of a given statement (HRowTypesTells): contracts of the functions that it reaches, what they answer, and in the last text the statement itself. Conditions: those that each theorem names. -/
import Derived.Test.YtgnklkmifcmlhaaZTtX4
import Derived.Test.YtgnklkmifcmlhaaZTtX5
import Derived.Test.YtgnklkmifcmlhaaZTtX3
import Derived.Deep.RegionHeld3
import Derived.Maps.AppendAt
import Derived.Deep.AppendLies
/- Proved here: the contract of types.Compare. Conditions: those that each theorem names. -/
namespace Go.Proofs.Ytgnklkmifcmlhaa.Q
open Go.RowKit Go.Proofs.YtgnklkmifcmlhaaW.PrintWords Go.Proofs.YtgnklkmifcmlhaaW.PrintMore
set_option linter.unusedVariables false
set_option linter.unusedSimpArgs false

/-! ### The order of types -/
def cmpI (a b : Int) : Int := if a < b then -1 else if b < a then 1 else 0
def or3 (a b c : Int) : Int := if a ≠ 0 then a else if b ≠ 0 then b else c
def rankT (b : Bool) : Int := if b = true then 0 else 1
def headC (a b : S25) : Int := or3 (cmpI (rankT a.f0) (rankT b.f0)) (Lib.compareBytes a.f1.data.toList b.f1.data.toList) (cmpI (a.f2.length : Int) (b.f2.length : Int))
mutual
def cmpT : S25 → S25 → Int
  | ⟨a0, a1, a2⟩, ⟨b0, b1, b2⟩ => if headC ⟨a0, a1, a2⟩ ⟨b0, b1, b2⟩ ≠ 0 then headC ⟨a0, a1, a2⟩ ⟨b0, b1, b2⟩ else cmpL a2 b2
def cmpL : List S25 → List S25 → Int
  | [], [] => 0
  | [], _ :: _ => -1
  | _ :: _, [] => 1
  | a :: l, b :: m => if cmpT a b ≠ 0 then cmpT a b else cmpL l m
end
mutual
def szT : S25 → Nat
  | ⟨_, _, l⟩ => szL l + 1
def szL : List S25 → Nat
  | [] => 0
  | a :: l => szT a + szL l
end
theorem szL_mem : ∀ (l : List S25) (x : S25), x ∈ l → szT x ≤ szL l
  | a :: l, x, h => by
    simp only [szL]
    rcases List.mem_cons.1 h with rfl | h
    · omega
    · have := szL_mem l x h; omega
theorem szT_pos (x : S25) : 0 < szT x := by cases x; simp [szT]
theorem cmpT_eq (a b : S25) : cmpT a b = if headC a b ≠ 0 then headC a b else cmpL a.f2 b.f2 := by cases a; cases b; simp only [cmpT]

theorem cmp_Compare_f (a b : Int) : cmp_Compare_int.f a b = some (cmpI a b) := by
  simp only [cmp_Compare_int.f, cmp_isNaN_int.f, cmpI]
  split <;> simp_all <;> split <;> simp_all
theorem or_f (a b c : Int) : cmp_Or_int.f 5 [a, b, c] = some (or3 a b c) := by
  have w0 : wrap64 1 = 1 := by unfold wrap64; omega
  have w1 : wrap64 2 = 2 := by unfold wrap64; omega
  have w2 : wrap64 3 = 3 := by unfold wrap64; omega
  simp only [cmp_Or_int.f, cmp_Or_int.l0, or3, List.length_cons, List.length_nil, rd]
  by_cases ha : a = 0 <;> by_cases hb : b = 0 <;> by_cases hc : c = 0 <;> simp [ha, hb, hc, w0, w1, w2, cmp_Or_int.l0, rd]
theorem rank_f (x : S25) : types_rank.f x.f0 x.f1 x.f2 = some (rankT x.f0) := by
  simp only [types_rank.f, rankT]; split <;> rfl

/-! ### CompareFunc, Compare -/
def CmpOk (x y : S25) : Prop := ∀ (A : Option Addr) (c : Nat) (B : Option Addr) (d : Nat) (w : World), k25.C w A x.f2.length x.f2 → x.f2.length ≤ c → k25.C w B y.f2.length y.f2 → y.f2.length ≤ d →
    Calls Try.prog 33 #[.agg #[.bool x.f0, .string x.f1, .slice A x.f2.length c], .agg #[.bool y.f0, .string y.f1, .slice B y.f2.length d]] w fun e w' => e = .returned (.int .i64 (cmpT x y)) ∧ Below w.heap.size w w'

set_option maxHeartbeats 2000000 in
set_option maxRecDepth 100000 in
theorem compareFunc_calls (l m : List S25) (hok : ∀ x y, x ∈ l → CmpOk x y) (A : Option Addr) (c : Nat) (B : Option Addr) (d : Nat) (w : World) (hA : k25.C w A l.length l) (hB : k25.C w B m.length m) :
    Calls Try.prog 76 #[.slice A l.length c, .slice B m.length d, .func (.func 33) #[] #[]] w fun e w' => e = .returned (.int .i64 (cmpL l m)) ∧ Below w.heap.size w w' := by
  have hm : l.length ≤ 9223372036854775807 := hA.2.1
  have hm2 : m.length ≤ 9223372036854775807 := hB.2.1
  have HA := Aside0.mk hA
  have HB := Aside0.mk hB
  have HO := Aside0.mk hok
  clear hA hB hok
  go_enter Try.func76, Try.ntmps76
  go_wp2
  go_loopg [7, 8, 9, 10, 13] l.length (fun gg _ _ _ _ s13 wr => ∃ kk : Nat, kk ≤ l.length ∧ l.length - kk ≤ gg ∧ s13 = .int .i64 kk ∧ kk ≤ m.length ∧ Aside0 (Below w.heap.size w wr) ∧ Aside0 (cmpL l m = cmpL (l.drop kk) (m.drop kk)))
  case atStart => exact ⟨0, Nat.zero_le _, by omega, rfl, Nat.zero_le _, ⟨Below.refl _ w⟩, ⟨rfl⟩⟩
  case round =>
    obtain ⟨kk, hkk, hg, rfl, hkm, HW, HC⟩ := hrel
    by_cases hlt : kk < l.length
    · have hltz : (kk : Int) < (l.length : Int) := by omega
      obtain ⟨ad, A2, c2, e1, hx0, hx1, hx2, hl2, hi2⟩ := at_T25 (Kd.C_below HA.out HW.out) (kk : Int) (by omega) hltz
      cases e1
      simp only [Int.toNat_natCast] at hx0 hx1 hx2
      have hmem : l.getD kk z25 ∈ l := getD_mem l z25 kk hlt
      have hX : rd_T25 l kk = l.getD kk z25 := rfl
      by_cases hlm : kk < m.length
      · have hlmz : (kk : Int) < (m.length : Int) := by omega
        have hge : decide (m.length ≤ kk) = false := by simp; omega
        obtain ⟨bd, B2, d2, e1, hy0, hy1, hy2, hl2', hi2'⟩ := at_T25 (Kd.C_below HB.out HW.out) (kk : Int) (by omega) hlmz
        cases e1
        simp only [Int.toNat_natCast] at hy0 hy1 hy2
        have hY : rd_T25 m kk = m.getD kk z25 := rfl
        have hC := HC.out
        rw [drop_rd l z25 kk hlt, drop_rd m z25 kk hlm, ← hX, ← hY] at hC
        rw [← hX] at hmem
        have hok := HO.out _ (rd_T25 m kk) hmem
        simp only [cmpL] at hC
        clear hX hY hmem HC
        generalize rd_T25 l kk = x at *
        generalize rd_T25 m kk = y at *
        have HC := Aside0.mk hC
        have hcall := fun W (hw : Below wr.heap.size wr W) => hok A2 c2 B2 d2 W (Kd.C_below hi2 hw) hl2 (Kd.C_below hi2' hw) hl2'
        clear hC hok hl2 hi2 hl2' hi2'
        have ax := World.block_lt_of_cell? wr _ hx0
        have ay := World.block_lt_of_cell? wr _ hy0
        generalize cmpT x y = r at *
        by_cases hr : r = 0
        · have hr1 : (r != 0) = false := bne_eq_false_iff_eq.mpr hr
          have HR := Lib.hid hr
          clear hr
          go_wp2_with (go_at_call 33; refine (hcall _ (below_two _ _)).mono ?_; rintro e w' ⟨rfl, hb'⟩)
          go_roundg (l.length - (kk + 1))
          case measure => omega
          case rel =>
            have hC := HC.out
            rw [if_neg (by rw [HR.out]; simp)] at hC
            exact ⟨kk + 1, by omega, by omega, by go_num, by omega, ⟨HW.out.trans ((below_step (below_two _ _) hb').mono HW.out.size)⟩, ⟨hC⟩⟩
        · have hr1 : (r != 0) = true := bne_iff_ne.mpr hr
          go_wp2_with (go_at_call 33; refine (hcall _ (below_two _ _)).mono ?_; rintro e w' ⟨rfl, hb'⟩)
          go_ret
          have hC := HC.out
          rw [if_pos hr] at hC
          exact ⟨by rw [hC]; rfl, HW.out.trans ((below_step (below_two _ _) hb').mono HW.out.size)⟩
      · have hge : decide (m.length ≤ kk) = true := by simp; omega
        have hC := HC.out
        rw [drop_rd l z25 kk hlt, List.drop_of_length_le (show m.length ≤ kk by omega)] at hC
        simp only [cmpL] at hC
        have HC := Aside0.mk hC
        clear hC hX hmem hl2 hi2
        go_wp2
        go_ret
        exact ⟨by rw [HC.out]; rfl, HW.out.trans ((below_one _).mono HW.out.size)⟩
    · have hltz : ¬ (kk : Int) < (l.length : Int) := by omega
      have hC := HC.out
      rw [List.drop_of_length_le (show l.length ≤ kk by omega)] at hC
      by_cases hlm : l.length < m.length
      · have hd : decide (l.length < m.length) = true := by simp; omega
        rw [drop_rd m z25 kk (by omega)] at hC
        simp only [cmpL] at hC
        have HC := Aside0.mk hC
        clear hC
        go_wp2
        go_ret
        exact ⟨by rw [HC.out]; rfl, HW.out⟩
      · have hd : decide (l.length < m.length) = false := by simp; omega
        rw [List.drop_of_length_le (show m.length ≤ kk by omega)] at hC
        simp only [cmpL] at hC
        have HC := Aside0.mk hC
        clear hC
        go_wp2
        go_ret
        exact ⟨by rw [HC.out]; rfl, HW.out⟩

/-- The two boxes of Compare's arguments, and that nothing elder has turned. -/
abbrev TwoTy (w : World) (x y : S25) (A : Option Addr) (c : Nat) (B : Option Addr) (d : Nat) (W : World) : Prop :=
  W.cell? ⟨w.heap.size, 0, none⟩ = some (.bool x.f0) ∧ W.cell? ⟨w.heap.size, 1, none⟩ = some (.string x.f1) ∧ W.cell? ⟨w.heap.size, 2, none⟩ = some (.slice A x.f2.length c) ∧
    W.cell? ⟨w.heap.size + 1, 0, none⟩ = some (.bool y.f0) ∧ W.cell? ⟨w.heap.size + 1, 1, none⟩ = some (.string y.f1) ∧ W.cell? ⟨w.heap.size + 1, 2, none⟩ = some (.slice B y.f2.length d) ∧ Below w.heap.size w W
theorem TwoTy.step {w : World} {x y : S25} {A : Option Addr} {c : Nat} {B : Option Addr} {d : Nat} {W W' : World} (h : TwoTy w x y A c B d W) (hb : Below W.heap.size W W') : TwoTy w x y A c B d W' :=
  ⟨pw_cell_below hb h.1, pw_cell_below hb h.2.1, pw_cell_below hb h.2.2.1, pw_cell_below hb h.2.2.2.1, pw_cell_below hb h.2.2.2.2.1, pw_cell_below hb h.2.2.2.2.2.1, below_step h.2.2.2.2.2.2 hb⟩
theorem orCall (a b c : Int) (W : World) (g : Nat) (h : W.heap[g]? = some (.cells #[.int .i64 a, .int .i64 b, .int .i64 c] 3 (0, 0))) :
    Calls Try.prog 72 #[.slice (some ⟨g, 0, none⟩) 3 3] W fun e w' => e = .returned (.int .i64 (or3 a b c)) ∧ Drawn0 W w' := by
  refine cmp_Or_int.calls 5 (some ⟨g, 0, none⟩) 3 [a, b, c] _ W ⟨rfl, by simp, fun _ => ⟨_, rfl, fun j p hj => ?_⟩⟩ (by simp) (or_f a b c)
  have hj3 : j < 3 := by have := (List.getElem?_eq_some_iff.1 hj).1; simpa using this
  refine ⟨[.int .i64 p], rfl, rfl, fun i u hu => ?_⟩
  have hi : i = 0 := by have := (List.getElem?_eq_some_iff.1 hu).1; simp at this; exact this
  subst hi
  have hu' : u = .int .i64 p := by simpa using hu.symm
  subst hu'
  rw [show (Kd.int .i64).sz = 1 from rfl, add_plain, Nat.mul_one, Nat.add_zero, blk_cell h]
  match j, hj3, hj with
  | 0, _, hj => simp at hj; simp [hj]
  | 1, _, hj => simp at hj; simp [hj]
  | 2, _, hj => simp at hj; simp [hj]

set_option maxHeartbeats 4000000 in
set_option maxRecDepth 100000 in
theorem compare_step (x y : S25) (hok : ∀ a b, a ∈ x.f2 → CmpOk a b) : CmpOk x y := by
  intro A c B d w hA hc hB hd
  have hrx := fun W (hw : TwoTy w x y A c B d W) => (types_rank.calls x.f0 x.f1 A c x.f2 _ W (Kd.C_below hA hw.2.2.2.2.2.2) hc (rank_f x)).mono (fun _ _ h => And.intro h.1 (hw.step h.2))
  have hry := fun W (hw : TwoTy w x y A c B d W) => (types_rank.calls y.f0 y.f1 B d y.f2 _ W (Kd.C_below hB hw.2.2.2.2.2.2) hd (rank_f y)).mono (fun _ _ h => And.intro h.1 (hw.step h.2))
  have hcc := fun a b W (hw : TwoTy w x y A c B d W) => (cmp_Compare_int.calls a b _ W (cmp_Compare_f a b)).mono (fun _ _ h => And.intro h.1 (hw.step h.2.below))
  have hst := fun a b W (hw : TwoTy w x y A c B d W) => (compare_calls a b W).mono (fun _ W' h => And.intro h.1 (show TwoTy w x y A c B d W' by rw [h.2]; exact hw))
  have hor := fun a b c' W (hw : TwoTy w x y A c B d W) => (orCall a b c' (W.alloc (.cells #[.int .i64 a, .int .i64 b, .int .i64 c'] 3)) W.heap.size (blk_new W _)).mono (fun _ _ h => And.intro h.1 ((hw.step (below_one _)).step h.2.below))
  have HF := fun W (hw : Below w.heap.size w W) => compareFunc_calls x.f2 y.f2 hok A c B d W (Kd.C_below hA hw) (Kd.C_below hB hw)
  clear hA hB hok hc hd
  go_enter Try.func33, Try.ntmps33
  go_wp2_with fail
  have hbw := below_two (w := w) (.cells #[.bool x.f0, .string x.f1, .slice A x.f2.length c] 25) (.cells #[.bool y.f0, .string y.f1, .slice B y.f2.length d] 25)
  have BX := box3 (blk_mid (w := w) (.cells #[.bool x.f0, .string x.f1, .slice A x.f2.length c] 25) (.cells #[.bool y.f0, .string y.f1, .slice B y.f2.length d] 25))
  have BY := box3 (blk_top (w := w) (.cells #[.bool x.f0, .string x.f1, .slice A x.f2.length c] 25) (.cells #[.bool y.f0, .string y.f1, .slice B y.f2.length d] 25))
  obtain ⟨a0, a1, a2, _, _, _⟩ := BX
  obtain ⟨b0, b1, b2, _, _, _⟩ := BY
  generalize (w.alloc (.cells #[.bool x.f0, .string x.f1, .slice A x.f2.length c] 25)).alloc (.cells #[.bool y.f0, .string y.f1, .slice B y.f2.length d] 25) = W0 at *
  have hS0 : TwoTy w x y A c B d W0.drew := ⟨a0, a1, a2, b0, b1, b2, below_drew1 hbw⟩
  go_region_held3 (fun W => TwoTy w x y A c B d W)
    (first | exact hS0 | assumption | exact TwoTy.step (by assumption) (below_one _))
    (first | (go_at_call 74; refine (hrx _ (by assumption)).mono ?_; rintro e w1 ⟨rfl, hN⟩) | (go_at_call 74; refine (hry _ (by assumption)).mono ?_; rintro e w1 ⟨rfl, hN⟩) | (go_at_call 73; refine (hcc _ _ _ (by assumption)).mono ?_; rintro e w1 ⟨rfl, hN⟩) | (go_at_call 75; refine (hst _ _ _ (by assumption)).mono ?_; rintro e w1 ⟨rfl, hN⟩) | (go_at_call 72; refine (hor _ _ _ _ (by assumption)).mono ?_; rintro e w1 ⟨rfl, hN⟩))
  have hH : TwoTy w x y A c B d w1 := hN
  obtain ⟨e0, e1, e2, g0, g1, g2, hb⟩ := hH
  have hq : or3 (cmpI (rankT x.f0) (rankT y.f0)) (Lib.compareBytes x.f1.data.toList y.f1.data.toList) (cmpI (x.f2.length : Int) (y.f2.length : Int)) = headC x y := rfl
  rw [hq]
  have HE := Lib.hid (cmpT_eq x y)
  have HFF := HF w1 hb
  have HB := Aside0.mk hb
  clear hrx hry hcc hst hor hS0 hq hN hbw HF hb a0 a1 a2 b0 b1 b2
  generalize headC x y = r at *
  by_cases hr : r = 0
  · have hr1 : (r != 0) = false := bne_eq_false_iff_eq.mpr hr
    have HR := Lib.hid hr
    clear hr
    go_wp2_with (go_at_call 76; refine HFF.mono ?_; rintro e w2 ⟨rfl, hb2⟩)
    go_ret
    exact ⟨by rw [HE.out, if_neg (by rw [HR.out]; simp)]; rfl, below_step HB.out hb2⟩
  · have hr1 : (r != 0) = true := bne_iff_ne.mpr hr
    have HR := Lib.hid hr
    clear hr
    go_wp2
    go_ret
    exact ⟨by rw [HE.out, if_pos HR.out]; rfl, HB.out⟩

theorem compare_ok : ∀ (n : Nat) (x y : S25), szT x ≤ n → CmpOk x y
  | 0, x, _, h => by have := szT_pos x; omega
  | n + 1, x, y, h => compare_step x y (fun a b ha => compare_ok n a b (by
      have := szL_mem x.f2 a ha
      have h2 : szT x = szL x.f2 + 1 := by cases x; simp [szT]
      omega))

theorem szT_eq (t : S25) : szT t = szL t.f2 + 1 := by cases t; simp [szT]
end Go.Proofs.Ytgnklkmifcmlhaa.Q
/- Proved here: trees of types in memory that may be written. Conditions: those that each theorem names. -/
namespace Go.Proofs.Ytgnklkmifcmlhaa.Q
open Go.RowKit Go.Proofs.YtgnklkmifcmlhaaW.PrintWords Go.Proofs.YtgnklkmifcmlhaaW.PrintMore
set_option linter.unusedVariables false
set_option linter.unusedSimpArgs false

theorem szT_eq' (t : S25) : szT t = szL t.f2 + 1 := by cases t; simp [szT]
theorem szL_len : ∀ l : List S25, l.length ≤ szL l
  | [] => Nat.zero_le _
  | a :: l => by
    have h1 := szL_len l
    have h2 := szT_pos a
    simp only [szL, List.length_cons]
    omega
theorem box3s {w : World} {g : Nat} {t : TypeId} {a b c : Value} (h : w.heap[g]? = some (.cells #[a, b, c] t (0, 0))) :
    w.cell? ⟨g, 0, none⟩ = some a ∧ w.cell? ⟨g, 1, none⟩ = some b ∧ w.cell? ⟨g, 2, none⟩ = some c ∧ w.frozen? ⟨g, 0, none⟩ = false ∧ w.frozen? ⟨g, 1, none⟩ = false ∧ w.frozen? ⟨g, 2, none⟩ = false ∧ g < w.heap.size :=
  ⟨(box3 h).1, (box3 h).2.1, (box3 h).2.2.1, (box3 h).2.2.2.1, (box3 h).2.2.2.2.1, (box3 h).2.2.2.2.2, blk_lt h⟩
/-! ### Trees of the call's own, which may be written: each row lies in a block of its own kind, not frozen -/
inductive WT (w : World) (ok : Nat → Prop) : Value → List S25 → Prop where
  | nil (A : Option Addr) (c : Nat) : WT w ok (.slice A 0 c) []
  | row (g cap : Nat) (cur : Array Value) (l : List S25) (vs : Nat → Value) (hn : 0 < l.length) (hg : ok g) (hb : w.heap[g]? = some (.cells cur 25 (0, 0)))
      (hl : l.length ≤ cap) (hm : cap ≤ 9223372036854775807) (hz : cur.size = cap * 3)
      (h0 : ∀ j, j < l.length → cur[j * 3]? = some (.bool (rd_T25 l (j : Int)).f0)) (h1 : ∀ j, j < l.length → cur[j * 3 + 1]? = some (.string (rd_T25 l (j : Int)).f1))
      (h2 : ∀ j, j < l.length → cur[j * 3 + 2]? = some (vs j)) (hr : ∀ j, j < l.length → WT w ok (vs j) (rd_T25 l (j : Int)).f2) : WT w ok (.slice (some ⟨g, 0, none⟩) l.length cap) l

theorem WT.mono {w : World} {ok ok' : Nat → Prop} {v : Value} {l : List S25} (h : WT w ok v l) (hok : ∀ k, ok k → ok' k) : WT w ok' v l := by
  induction h with
  | nil A c => exact .nil A c
  | row g cap cur l vs hn hg hb hl hm hz h0 h1 h2 hr ih => exact .row g cap cur l vs hn (hok g hg) hb hl hm hz h0 h1 h2 (fun j hj => ih j hj)
theorem WT.step {w w1 : World} {ok : Nat → Prop} {v : Value} {l : List S25} (h : WT w ok v l) (hm : ∀ k, ok k → k < w.heap.size → w1.heap[k]? = w.heap[k]?) : WT w1 ok v l := by
  induction h with
  | nil A c => exact .nil A c
  | row g cap cur l vs hn hg hb hl hm' hz h0 h1 h2 hr ih => exact .row g cap cur l vs hn hg ((hm g hg (blk_lt hb)).trans hb) hl hm' hz h0 h1 h2 (fun j hj => ih j hj)
theorem WT.bound {w : World} {ok : Nat → Prop} {v : Value} {l : List S25} (h : WT w ok v l) : WT w (fun k => ok k ∧ k < w.heap.size) v l := by
  induction h with
  | nil A c => exact .nil A c
  | row g cap cur l vs hn hg hb hl hm' hz h0 h1 h2 hr ih => exact .row g cap cur l vs hn ⟨hg, blk_lt hb⟩ hb hl hm' hz h0 h1 h2 (fun j hj => ih j hj)
theorem WT.later {w w1 : World} {ok : Nat → Prop} {v : Value} {l : List S25} (h : WT w ok v l) (hb : Below w.heap.size w w1) : WT w1 ok v l := h.step (fun k _ hk => hb.block k hk)
theorem WT.far {w : World} {ok : Nat → Prop} {v : Value} {l : List S25} (h : WT w ok v l) (p : Addr) (u : Value) (hp : ∀ k, ok k → k ≠ p.block) : WT (w.setCell p u) ok v l := h.step (fun k hk _ => Below.heap_setCell w p u k (hp k hk))
theorem rd_get (l : List S25) (j : Nat) (p : S25) (h : l[j]? = some p) : j < l.length ∧ rd_T25 l (j : Int) = p := by
  obtain ⟨hj, hp⟩ := List.getElem?_eq_some_iff.1 h
  exact ⟨hj, by unfold rd_T25; simp only [Int.toNat_natCast]; rw [List.getD_eq_getElem?_getD, h]; rfl⟩
theorem add_zero_spot (g n : Nat) : Addr.add ⟨g, 0, none⟩ n = ⟨g, n, none⟩ := by
  unfold Addr.add
  split
  · rename_i h; rw [h]
  · simp
theorem WT.reads {w : World} {ok : Nat → Prop} {v : Value} {l : List S25} (h : WT w ok v l) : ∃ A c, v = .slice A l.length c ∧ l.length ≤ c ∧ k25.C w A l.length l := by
  induction h with
  | nil A c => exact ⟨A, c, rfl, Nat.zero_le _, rfl, by simp, fun h => absurd h (by simp)⟩
  | row g cap cur l vs hn hg hb hl hm hz h0 h1 h2 hr ih =>
    refine ⟨_, _, rfl, hl, rfl, by omega, fun _ => ⟨_, rfl, fun j p hj => ?_⟩⟩
    obtain ⟨hjl, hp⟩ := rd_get l j p hj
    obtain ⟨A, c, hv, hlc, hC⟩ := ih j hjl
    have g0 := h0 j hjl
    have g1 := h1 j hjl
    have g2 := h2 j hjl
    rw [hp] at g0 g1 hv hlc hC
    rw [hv] at g2
    refine ⟨[.bool p.f0, .string p.f1, .slice A p.f2.length c], rfl, k25_mk w p hlc hC, fun i u hu => ?_⟩
    · show w.cell? (Addr.add ⟨g, 0, none⟩ (j * 3 + i)) = some u
      rw [add_zero_spot, blk_cell hb]
      match i, hu with
      | 0, hu => exact g0.trans hu
      | 1, hu => exact g1.trans hu
      | 2, hu => exact g2.trans hu
      | i + 3, hu => simp at hu
theorem WT.V {w : World} {ok : Nat → Prop} {v : Value} {l : List S25} (h : WT w ok v l) (base : Nat) : Kd.V k25 25 w base ok v l := by
  obtain ⟨A, c, rfl, hl, hC⟩ := h.reads
  refine ⟨A, c, rfl, hl, fun W' hW => ?_⟩
  obtain ⟨A', c', he, _, hC'⟩ := (h.step (w1 := W') hW).reads
  injection he with ha _ _
  rw [ha]
  exact hC'
/-! ### A row of such trees under construction (append) -/
end Go.Proofs.Ytgnklkmifcmlhaa.Q
/- Proved here: the contract of types.Twin. Conditions: those that each theorem names. -/
namespace Go.Proofs.Ytgnklkmifcmlhaa.Q
open Go.RowKit Go.Shelf Go.Proofs.YtgnklkmifcmlhaaW.PrintWords Go.Proofs.YtgnklkmifcmlhaaW.PrintMore
set_option linter.unusedVariables false
set_option linter.unusedSimpArgs false
attribute [local go_sem] Oper.semAt_some

theorem run_mkT (W : World) (n : Nat) (hn : n ≤ 5864062014805) : (Instr.makeSlice 23 (.int .i64 (n : Int)) (.int .i64 (n : Int))).run Try.prog W = .ok (.slice (some ⟨W.heap.size, 0, none⟩) n n) (W.alloc (.cells (madeCells #[.bool false, .string ⟨#[]⟩, .slice none 0 0] (n * 3)) 25)) := by
  obtain ⟨i0, hi, hz0, hz1, hz2⟩ := info_parts info25
  have h := run_make (P := Try.prog) W 23 25 i0 _ Try.underlying23 hi hz0 .i64 .i64 (n : Int) (n : Int) (by omega) (by omega) (by rw [hz2]; omega) (by omega)
  rw [hz1] at h
  exact h

/-- What the loop of Twin has built. -/
structure TwinAt (w : World) (t : S25) (kk : Nat) (W : World) : Prop where
  b1 : W.heap[w.heap.size]? = some (.cells #[.bool t.f0, .string t.f1, .slice (some ⟨w.heap.size + 2, 0, none⟩) t.f2.length t.f2.length] 25 (0, 0))
  b2 : W.heap[w.heap.size + 1]? = some (.cells #[.bool false, .string ⟨#[]⟩, .slice none 0 0] 25 (0, 0))
  b3 : ∃ (cur : Array Value) (vs : Nat → Value), W.heap[w.heap.size + 2]? = some (.cells cur 25 (0, 0)) ∧ cur.size = t.f2.length * 3 ∧
    ∀ j, j < kk → cur[j * 3]? = some (.bool (rd_T25 t.f2 (j : Int)).f0) ∧ cur[j * 3 + 1]? = some (.string (rd_T25 t.f2 (j : Int)).f1) ∧ cur[j * 3 + 2]? = some (vs j) ∧ WT W (fun k => w.heap.size + 3 ≤ k) (vs j) (rd_T25 t.f2 (j : Int)).f2
  hb : Below w.heap.size w W

/-- The cells that the statement of the loop loads. -/
abbrev TwinS (w wr : World) (x : S25) (A2 : Option Addr) (c2 : Nat) (u : Value) (W : World) : Prop :=
  W.cell? ⟨wr.heap.size, 0, none⟩ = some (.bool x.f0) ∧ W.cell? ⟨wr.heap.size, 1, none⟩ = some (.string x.f1) ∧ W.cell? ⟨wr.heap.size, 2, none⟩ = some (.slice A2 x.f2.length c2) ∧ W.cell? ⟨w.heap.size, 2, none⟩ = some u ∧ Below w.heap.size w W
theorem TwinS.step {w wr W W' : World} {x : S25} {A2 : Option Addr} {c2 : Nat} {u : Value} (h : TwinS w wr x A2 c2 u W) (hb : Below W.heap.size W W') : TwinS w wr x A2 c2 u W' :=
  ⟨pw_cell_below hb h.1, pw_cell_below hb h.2.1, pw_cell_below hb h.2.2.1, pw_cell_below hb h.2.2.2.1, below_step h.2.2.2.2 hb⟩
theorem cell_away {W : World} {p q : Addr} {u v : Value} (h : W.cell? p = some v) (hne : p.block ≠ q.block) : (W.setCell q u).cell? p = some v := by
  unfold World.cell? at h ⊢
  rw [Below.heap_setCell W q u p.block hne]
  exact h
theorem TwinS.put {w wr W : World} {x : S25} {A2 : Option Addr} {c2 : Nat} {u : Value} (hlt : w.heap.size + 2 < wr.heap.size) (h : TwinS w wr x A2 c2 u W) (i j k : Nat) (a b c : Value) :
    TwinS w wr x A2 c2 u (((W.setCell ⟨w.heap.size + 2, i, none⟩ a).setCell ⟨w.heap.size + 2, j, none⟩ b).setCell ⟨w.heap.size + 2, k, none⟩ c) := by
  have n1 : wr.heap.size ≠ w.heap.size + 2 := by omega
  have n2 : w.heap.size ≠ w.heap.size + 2 := by omega
  exact ⟨cell_away (cell_away (cell_away h.1 n1) n1) n1, cell_away (cell_away (cell_away h.2.1 n1) n1) n1, cell_away (cell_away (cell_away h.2.2.1 n1) n1) n1, cell_away (cell_away (cell_away h.2.2.2.1 n2) n2) n2, ((h.2.2.2.2.setCell (by simp) _).setCell (by simp) _).setCell (by simp) _⟩
theorem TwinAt.next {w wr w1 : World} {t x : S25} {kk : Nat} {cur : Array Value} {vs : Nat → Value} {v : Value} (hX : rd_T25 t.f2 (kk : Int) = x)
    (b1 : wr.heap[w.heap.size]? = some (.cells #[.bool t.f0, .string t.f1, .slice (some ⟨w.heap.size + 2, 0, none⟩) t.f2.length t.f2.length] 25 (0, 0)))
    (b2 : wr.heap[w.heap.size + 1]? = some (.cells #[.bool false, .string ⟨#[]⟩, .slice none 0 0] 25 (0, 0)))
    (b3 : wr.heap[w.heap.size + 2]? = some (.cells cur 25 (0, 0))) (hz : cur.size = t.f2.length * 3)
    (hel : ∀ j, j < kk → cur[j * 3]? = some (.bool (rd_T25 t.f2 (j : Int)).f0) ∧ cur[j * 3 + 1]? = some (.string (rd_T25 t.f2 (j : Int)).f1) ∧ cur[j * 3 + 2]? = some (vs j) ∧ WT wr (fun k => w.heap.size + 3 ≤ k) (vs j) (rd_T25 t.f2 (j : Int)).f2)
    (hb : Below w.heap.size w wr) (hkk : kk < t.f2.length) (hWT : WT w1 (fun k => wr.heap.size ≤ k) v x.f2) (h1 : Below wr.heap.size wr w1) :
    TwinAt w t (kk + 1) (((w1.setCell ⟨w.heap.size + 2, kk * 3, none⟩ (.bool x.f0)).setCell ⟨w.heap.size + 2, kk * 3 + 1, none⟩ (.string x.f1)).setCell ⟨w.heap.size + 2, kk * 3 + 2, none⟩ v) := by
  have hs := blk_lt b3
  have W3 := blk_below b3 h1
  have P := blk_put (blk_put (blk_put W3 (kk * 3) (.bool x.f0) rfl) (kk * 3 + 1) (.string x.f1) rfl) (kk * 3 + 2) v rfl
  refine ⟨blk_far (blk_far (blk_far (blk_below b1 h1) (by simp) _) (by simp) _) (by simp) _, blk_far (blk_far (blk_far (blk_below b2 h1) (by simp) _) (by simp) _) (by simp) _,
    ⟨_, fun j => if j = kk then v else vs j, P, by simp [hz], fun j hj => ?_⟩, (((below_step hb h1).setCell (by simp) _).setCell (by simp) _).setCell (by simp) _⟩
  by_cases hjk : j = kk
  · subst hjk
    simp only [if_true]
    rw [hX]
    refine ⟨?_, ?_, ?_, ?_⟩
    · rw [Array.getElem?_setIfInBounds_ne (by omega), Array.getElem?_setIfInBounds_ne (by omega), Array.getElem?_setIfInBounds_self_of_lt (by omega)]
    · rw [Array.getElem?_setIfInBounds_ne (by omega), Array.getElem?_setIfInBounds_self_of_lt (by simp; omega)]
    · rw [Array.getElem?_setIfInBounds_self_of_lt (by simp; omega)]
    · exact (((hWT.far _ _ (fun k hk => by show k ≠ w.heap.size + 2; omega)).far _ _ (fun k hk => by show k ≠ w.heap.size + 2; omega)).far _ _ (fun k hk => by show k ≠ w.heap.size + 2; omega)).mono (fun k hk => by omega)
  · simp only [if_neg hjk]
    obtain ⟨q0, q1, q2, q3⟩ := hel j (by omega)
    refine ⟨?_, ?_, ?_, ?_⟩
    · rw [Array.getElem?_setIfInBounds_ne (by omega), Array.getElem?_setIfInBounds_ne (by omega), Array.getElem?_setIfInBounds_ne (by omega)]
      exact q0
    · rw [Array.getElem?_setIfInBounds_ne (by omega), Array.getElem?_setIfInBounds_ne (by omega), Array.getElem?_setIfInBounds_ne (by omega)]
      exact q1
    · rw [Array.getElem?_setIfInBounds_ne (by omega), Array.getElem?_setIfInBounds_ne (by omega), Array.getElem?_setIfInBounds_ne (by omega)]
      exact q2
    · exact ((((q3.later h1).far _ _ (fun k hk => by show k ≠ w.heap.size + 2; omega)).far _ _ (fun k hk => by show k ≠ w.heap.size + 2; omega)).far _ _ (fun k hk => by show k ≠ w.heap.size + 2; omega))

set_option maxHeartbeats 2000000 in
set_option maxRecDepth 100000 in
theorem twin_calls : ∀ (n : Nat) (t : S25) (A : Option Addr) (c : Nat) (w : World), szT t ≤ n → szT t ≤ 5864062014805 → k25.C w A t.f2.length t.f2 → t.f2.length ≤ c →
    Calls Try.prog 27 #[.agg #[.bool t.f0, .string t.f1, .slice A t.f2.length c]] w fun e w' => ∃ v, e = .returned (.agg #[.bool t.f0, .string t.f1, v]) ∧ WT w' (fun k => w.heap.size ≤ k) v t.f2 ∧ Below w.heap.size w w'
  | 0, t, A, c, w, h, _, _, _ => by have := szT_pos t; omega
  | n + 1, t, A, c, w, hn, hs, hA, hc => by
    have ih := fun (kk : Nat) (hk : kk < t.f2.length) A' c' W hC hc' => twin_calls n (rd_T25 t.f2 (kk : Int)) A' c' W (by
      have := szL_mem t.f2 _ (getD_mem t.f2 z25 kk hk)
      have h2 : szT t = szL t.f2 + 1 := by cases t; simp [szT]
      show szT (t.f2.getD kk z25) ≤ n
      omega) (by
      have := szL_mem t.f2 _ (getD_mem t.f2 z25 kk hk)
      have h2 : szT t = szL t.f2 + 1 := by cases t; simp [szT]
      show szT (t.f2.getD kk z25) ≤ 5864062014805
      omega) hC hc'
    have hlen : t.f2.length ≤ 5864062014805 := by
      have h2 : szT t = szL t.f2 + 1 := by cases t; simp [szT]
      have h3 := szL_len t.f2
      omega
    have HA := Aside0.mk hA
    have HC := Aside0.mk hc
    have IH := Aside0.mk ih
    clear hA hc ih hs hn
    have hb2 := below_two (w := w) (.cells #[.bool t.f0, .string t.f1, .slice none 0 0] 25) (.cells #[.bool false, .string ⟨#[]⟩, .slice none 0 0] 25)
    have B1 := blk_mid (w := w) (.cells #[.bool t.f0, .string t.f1, .slice none 0 0] 25) (.cells #[.bool false, .string ⟨#[]⟩, .slice none 0 0] 25)
    have B2 := blk_top (w := w) (.cells #[.bool t.f0, .string t.f1, .slice none 0 0] 25) (.cells #[.bool false, .string ⟨#[]⟩, .slice none 0 0] 25)
    rcases Nat.eq_zero_or_pos t.f2.length with h0 | h0
    · have d0 : decide (0 < t.f2.length) = false := decide_eq_false (by omega)
      have HL := List.length_eq_zero_iff.1 h0
      go_enter Try.func27, Try.ntmps27
      go_wp2
      generalize (w.alloc (.cells #[.bool t.f0, .string t.f1, .slice none 0 0] 25)).alloc (.cells #[.bool false, .string ⟨#[]⟩, .slice none 0 0] 25) = W0 at *
      go_loopg [18] 1 (fun gg v18 wr => v18 = .int .i64 0 ∧ wr = W0)
      case atStart => exact ⟨rfl, rfl⟩
      case round =>
        obtain ⟨rfl, rfl⟩ := hrel
        obtain ⟨c0, c1, c2, f0, f1, f2⟩ := box3 B1
        obtain ⟨e0, e1, e2, g0, g1, g2⟩ := box3 B2
        go_wp2
        refine bodyPost_ret (results_cell_row rfl _ _ (w.heap.size + 1) 25 #[.bool t.f0, .string t.f1, .slice none 0 0] (0, 0) _ rfl (set3 B2) Try.underlying25 rfl (by kernel_rfl)) rfl ?_
        exact ⟨_, rfl, by rw [HL]; exact .nil _ _, ((hb2.setCell (by simp) _).setCell (by simp) _).setCell (by simp) _⟩
    · have d0 : decide (0 < t.f2.length) = true := decide_eq_true h0
      have hmk := fun W => run_mkT W t.f2.length hlen
      go_enter Try.func27, Try.ntmps27
      go_wp2_with fail
      obtain ⟨W0, hW0⟩ : ∃ W0, ((w.alloc (.cells #[.bool t.f0, .string t.f1, .slice (some ⟨w.heap.size + 1 + 1, 0, none⟩) t.f2.length t.f2.length] 25)).alloc (.cells #[.bool false, .string ⟨#[]⟩, .slice none 0 0] 25)).alloc (.cells (madeCells #[.bool false, .string ⟨#[]⟩, .slice none 0 0] (t.f2.length * 3)) 25) = W0 := ⟨_, rfl⟩
      have hS0 : TwinAt w t 0 W0 := by
        rw [← hW0]
        refine ⟨blk_alloc (blk_mid _ _) _, blk_alloc (blk_top _ _) _, ⟨madeCells #[.bool false, .string ⟨#[]⟩, .slice none 0 0] (t.f2.length * 3), fun _ => undef, ?_, size_madeCells _ _, fun j hj => absurd hj (by omega)⟩, (below_two _ _).alloc (by simp; omega) _⟩
        have := blk_new ((w.alloc (.cells #[.bool t.f0, .string t.f1, .slice (some ⟨w.heap.size + 1 + 1, 0, none⟩) t.f2.length t.f2.length] 25)).alloc (.cells #[.bool false, .string ⟨#[]⟩, .slice none 0 0] 25)) (.cells (madeCells #[.bool false, .string ⟨#[]⟩, .slice none 0 0] (t.f2.length * 3)) 25)
        simpa using this
      rw [hW0]
      clear hW0 B1 B2 hb2 hmk
      go_loopg [18] t.f2.length (fun gg v18 wr => ∃ kk : Nat, kk ≤ t.f2.length ∧ gg + kk = t.f2.length ∧ v18 = .int .i64 (kk : Int) ∧ Aside0 (TwinAt w t kk wr))
      case atStart => exact ⟨0, by omega, by omega, rfl, ⟨hS0⟩⟩
      case round =>
        obtain ⟨kk, hk1, hk2, rfl, hT⟩ := hrel
        clear hS0
        obtain ⟨B1, B2, ⟨cur, vs, B3, hz, hel⟩, hb⟩ := hT.out
        obtain ⟨c0, c1, c2, f0, f1, f2⟩ := box3 B1
        obtain ⟨e0, e1, e2, g0, g1, g2⟩ := box3 B2
        by_cases hkk : kk < t.f2.length
        · have q0 : decide (kk < t.f2.length) = true := decide_eq_true hkk
          obtain ⟨ad, A2, c2', rfl, hx0, hx1, hx2, hl2, hC2⟩ := at_T25 HA.out (kk : Int) (by omega) (by omega)
          have HCE := fun (W : World) (hw : Below w.heap.size w W) => Kd.C_below hC2 hw
          replace hx0 := pw_cell_below hb hx0
          replace hx1 := pw_cell_below hb hx1
          replace hx2 := pw_cell_below hb hx2
          simp only [Int.toNat_natCast] at hx0 hx1 hx2
          have hcall := fun W (hw : TwinS w wr (rd_T25 t.f2 (kk : Int)) A2 c2' (.slice (some ⟨w.heap.size + 2, 0, none⟩) t.f2.length t.f2.length) W) => (IH.out kk hkk A2 c2' W (HCE W hw.2.2.2.2) hl2).mono (fun _ W' h => show ∃ v, _ ∧ WT W' (fun k => W.heap.size ≤ k) v _ ∧ Below W.heap.size W W' ∧ TwinS w wr (rd_T25 t.f2 (kk : Int)) A2 c2' (.slice (some ⟨w.heap.size + 2, 0, none⟩) t.f2.length t.f2.length) W' from by obtain ⟨v, h1, h2, h3⟩ := h; exact ⟨v, h1, h2, h3, hw.step h3⟩)
          have hlt := blk_lt B3
          clear HCE
          generalize hX : rd_T25 t.f2 (kk : Int) = x at hx0 hx1 hx2 hl2 hC2 hcall
          have HX := Lib.hid hX
          have HEL := Aside0.mk hel
          have HB1 := Aside0.mk B1
          have HB2 := Aside0.mk B2
          have HB3 := Aside0.mk B3
          have HB := Aside0.mk hb
          clear hX hel hb hC2 hT
          have hc0 : cur[kk * 3]? = some cur[kk * 3] := Array.getElem?_eq_getElem (by omega)
          have hc1 : cur[kk * 3 + 1]? = some cur[kk * 3 + 1] := Array.getElem?_eq_getElem (by omega)
          have hc2 : cur[kk * 3 + 2]? = some cur[kk * 3 + 2] := Array.getElem?_eq_getElem (by omega)
          go_wp2_with fail
          have hS1 : TwinS w wr x A2 c2' (.slice (some ⟨w.heap.size + 2, 0, none⟩) t.f2.length t.f2.length) (wr.alloc (.cells #[.bool x.f0, .string x.f1, .slice A2 x.f2.length c2'] 25)).drew := by
            have BN := blk_new wr (.cells #[.bool x.f0, .string x.f1, .slice A2 x.f2.length c2'] 25)
            obtain ⟨n0, n1, n2, _⟩ := box3 BN
            exact ⟨n0, n1, n2, (box3 (blk_alloc HB1.out (.cells #[.bool x.f0, .string x.f1, .slice A2 x.f2.length c2'] 25))).2.2.1, below_drew1 (HB.out.alloc HB.out.size _)⟩
          go_region_held3 (fun W => TwinS w wr x A2 c2' (.slice (some ⟨w.heap.size + 2, 0, none⟩) t.f2.length t.f2.length) W)
            (first | exact hS1 | assumption | exact TwinS.put hlt (by assumption) _ _ _ _ _ _)
            (first | (go_at_call 27; refine (hcall _ (by assumption)).mono ?_; rintro e w1 ⟨v, rfl, hWT, hB1, hN⟩; obtain ⟨A4, c4, hv4, _⟩ := hWT.reads; subst hv4; have hbN := below_step (below_drew1 (below_one (w := wr) (.cells #[.bool x.f0, .string x.f1, .slice A2 x.f2.length c2'] 25))) hB1; have W3 := blk_below HB3.out hbN; have s0 := (blk_cell W3 (kk * 3)).trans hc0; have s1 := (blk_cell W3 (kk * 3 + 1)).trans hc1; have s2 := (blk_cell W3 (kk * 3 + 2)).trans hc2; have r0 := blk_frozen W3 (kk * 3); have r1 := blk_frozen W3 (kk * 3 + 1); have r2 := blk_frozen W3 (kk * 3 + 2)))
          have HR := TwinAt.next (HX.out) HB1.out HB2.out HB3.out hz HEL.out HB.out hkk (hWT.mono (fun k hk => by simp at hk; omega)) hbN
          clear hbN hWT hS1 hcall W3 s0 s1 s2 r0 r1 r2 hc0 hc1 hc2 hx0 hx1 hx2 c0 c1 c2 f0 f1 f2 e0 e1 e2 g0 g1 g2
          try clear hS0
          go_wp2
          go_roundg (t.f2.length - kk - 1)
          case measure => omega
          case rel => exact ⟨kk + 1, by omega, by omega, by simp, ⟨HR⟩⟩
        · have q0 : decide (kk < t.f2.length) = false := decide_eq_false hkk
          obtain rfl : kk = t.f2.length := by omega
          clear hkk
          have HEL := Aside0.mk hel
          clear hel
          go_wp2
          refine bodyPost_ret (results_cell_row rfl _ _ (w.heap.size + 1) 25 #[.bool t.f0, .string t.f1, .slice (some ⟨w.heap.size + 2, 0, none⟩) t.f2.length t.f2.length] (0, 0) _ rfl (set3 B2) Try.underlying25 rfl (by kernel_rfl)) rfl ?_
          refine ⟨_, rfl, .row _ _ cur _ vs h0 (by show w.heap.size ≤ w.heap.size + 2; omega) (blk_far (blk_far (blk_far B3 (by simp) _) (by simp) _) (by simp) _) (Nat.le_refl _) (by omega) hz (fun j hj => (HEL.out j hj).1) (fun j hj => (HEL.out j hj).2.1) (fun j hj => (HEL.out j hj).2.2.1) (fun j hj => ?_), ((hb.setCell (by simp) _).setCell (by simp) _).setCell (by simp) _⟩
          refine WT.mono ((((HEL.out j hj).2.2.2.far _ _ ?_).far _ _ ?_).far _ _ ?_) (fun k hk => Nat.le_trans (by omega) hk)
          all_goals (intro k hk; show k ≠ w.heap.size + 1; omega)

end Go.Proofs.Ytgnklkmifcmlhaa.Q
/- Proved here: what the printed functions on sizes, names and shapes of types answer in the end. Conditions: those that each theorem names. -/
namespace Go.Proofs.Ytgnklkmifcmlhaa.Q
open Go.RowKit Go.Proofs.YtgnklkmifcmlhaaW.PrintWords Go.Proofs.YtgnklkmifcmlhaaW.PrintMore
set_option linter.unusedVariables false
set_option linter.unusedSimpArgs false

/-! ### What a function with a purse answers in the end -/
def Ev {α : Type} (f : Nat → Option α) (r : α) : Prop := ∃ K, ∀ k, K ≤ k → f k = some r
theorem Ev.pure {α : Type} (r : α) : Ev (fun _ => some r) r := ⟨0, fun _ _ => rfl⟩
theorem Ev.bind {α β : Type} {f : Nat → Option α} {g : α → Nat → Option β} {a : α} {r : β} (h : Ev f a) (h2 : Ev (fun k => g a k) r) : Ev (fun k => (f k).bind fun x => g x k) r := by
  obtain ⟨K, hK⟩ := h
  obtain ⟨K2, hK2⟩ := h2
  exact ⟨K + K2, fun k hk => by show (f k).bind _ = _; rw [hK k (by omega), Option.bind_some]; exact hK2 k (by omega)⟩
theorem Ev.succ {α : Type} {f : Nat → Option α} {r : α} (h : Ev (fun k => f (k + 1)) r) : Ev f r := by
  obtain ⟨K, hK⟩ := h
  exact ⟨K + 1, fun k hk => by
    obtain ⟨k', rfl⟩ : ∃ k', k = k' + 1 := ⟨k - 1, by omega⟩
    exact hK k' (by omega)⟩
theorem Ev.cong {α : Type} {f g : Nat → Option α} {r : α} (h : Ev g r) (e : ∀ k, f k = g k) : Ev f r := by
  obtain ⟨K, hK⟩ := h
  exact ⟨K, fun k hk => (e k).trans (hK k hk)⟩
theorem Ev.val {α : Type} {f : Nat → Option α} {r r' : α} (h : Ev f r) (e : r = r') : Ev f r' := e ▸ h
theorem Ev.at {α : Type} {f : Nat → Option α} {r : α} (h : Ev f r) : ∃ k, f k = some r := by
  obtain ⟨K, hK⟩ := h
  exact ⟨K, hK K (Nat.le_refl _)⟩
theorem down (P : Nat → Prop) (n : Nat) (hn : P n) (hs : ∀ j, j < n → P (j + 1) → P j) : P 0 := by
  have : ∀ d j, j + d = n → P j := by
    intro d
    induction d with
    | zero => intro j hj; have e : j = n := by omega
              rw [e]; exact hn
    | succ d ih => intro j hj; exact hs j (by omega) (ih (j + 1) (by omega))
  exact this n 0 (by omega)
theorem Ev.ite {α : Type} {c : Prop} [Decidable c] {f g : Nat → Option α} {r : α} (h : c → Ev f r) (h2 : ¬ c → Ev g r) : Ev (fun k => if c then f k else g k) r := by
  by_cases hc : c
  · exact (h hc).cong (fun k => if_pos hc)
  · exact (h2 hc).cong (fun k => if_neg hc)
theorem Ev.pos {α : Type} {c : Prop} [Decidable c] {f g : Nat → Option α} {r : α} (hc : c) (h : Ev f r) : Ev (fun k => if c then f k else g k) r := h.cong (fun k => if_pos hc)
theorem Ev.neg {α : Type} {c : Prop} [Decidable c] {f g : Nat → Option α} {r : α} (hc : ¬ c) (h : Ev g r) : Ev (fun k => if c then f k else g k) r := h.cong (fun k => if_neg hc)
theorem w64 {x : Int} (h0 : -9223372036854775808 ≤ x) (h1 : x < 9223372036854775808) : wrap64 x = x := by unfold wrap64; omega
theorem w64s {j : Nat} (h : j < 9223372036854775807) : wrap64 ((j : Int) + 1) = ((j + 1 : Nat) : Int) := by rw [w64 (by omega) (by omega)]; omega
theorem rdT (l : List S25) (j : Nat) (h : j < l.length) : rd_T25 l (j : Int) = l[j] := by
  unfold rd_T25
  simp only [Int.toNat_natCast]
  rw [List.getD_eq_getElem?_getD, List.getElem?_eq_getElem h]
  rfl

theorem szL_take (l : List S25) (j : Nat) (h : j < l.length) : szL (l.take (j + 1)) = szL (l.take j) + szT l[j] := by
  induction l generalizing j with
  | nil => simp at h
  | cons a l ih =>
    cases j with
    | zero => simp [szL]
    | succ j =>
      simp only [List.length_cons] at h
      simp only [List.take_succ_cons, szL, List.getElem_cons_succ]
      rw [ih j (by omega)]
      omega
theorem szL_le (l : List S25) (j : Nat) (h : j < l.length) : szL (l.take j) + szT l[j] ≤ szL l := by
  rw [← szL_take l j h]
  have : ∀ (l : List S25) (n : Nat), szL (l.take n) ≤ szL l := by
    intro l
    induction l with
    | nil => intro n; simp
    | cons a l ih =>
      intro n
      cases n with
      | zero => simp [szL]
      | succ n => simp only [List.take_succ_cons, szL]; have := ih n; omega
  exact this l (j + 1)
mutual
def dpT : S25 → Nat
  | ⟨_, _, l⟩ => dpL l + 1
def dpL : List S25 → Nat
  | [] => 0
  | a :: l => max (dpT a) (dpL l)
end
theorem dpT_eq (t : S25) : dpT t = dpL t.f2 + 1 := by cases t; simp [dpT]
theorem dpL_take (l : List S25) (j : Nat) (h : j < l.length) : dpL (l.take (j + 1)) = max (dpL (l.take j)) (dpT l[j]) := by
  induction l generalizing j with
  | nil => simp at h
  | cons a l ih =>
    cases j with
    | zero => simp [dpL]
    | succ j =>
      simp only [List.length_cons] at h
      simp only [List.take_succ_cons, dpL, List.getElem_cons_succ]
      rw [ih j (by omega)]
      omega
mutual
theorem dpT_le : ∀ t : S25, dpT t ≤ szT t
  | ⟨_, _, l⟩ => by simp only [dpT, szT]; have := dpL_le l; omega
theorem dpL_le : ∀ l : List S25, dpL l ≤ szL l
  | [] => by simp [dpL, szL]
  | a :: l => by simp only [dpL, szL]; have := dpT_le a; have := dpL_le l; omega
end
/-- Induction over trees. -/
theorem S_ind {P : S25 → Prop} (h : ∀ t, (∀ x, x ∈ t.f2 → P x) → P t) (t : S25) : P t := by
  have : ∀ n t, szT t ≤ n → P t := by
    intro n
    induction n with
    | zero => intro t ht; have := szT_pos t; omega
    | succ n ih =>
      intro t ht
      refine h t (fun x hx => ih x ?_)
      have := szL_mem t.f2 x hx
      have := szT_eq t
      omega
  exact this _ t (Nat.le_refl _)

theorem size_ev (t : S25) : szT t ≤ 4611686018427387904 → Ev (fun k => types_Size.f k t.f0 t.f1 t.f2) (szT t : Int) := by
  induction t using S_ind with
  | _ t ih =>
  intro hb
  rw [szT_eq] at hb ⊢
  refine Ev.succ ?_
  simp only [types_Size.f]
  have hl := szL_len t.f2
  refine Ev.cong (down (fun j => Ev (fun k => types_Size.l0 k ((1 + szL (t.f2.take j) : Nat) : Int) t.f2 (t.f2.length : Int) (j : Int)) ((szL t.f2 + 1 : Nat) : Int)) t.f2.length ?_ ?_) (fun k => by simp [szL])
  · refine Ev.succ ?_
    simp only [types_Size.l0, List.take_length]
    refine Ev.neg (by omega) (?_)
    exact (Ev.pure _).val (by omega)
  · intro j hj h
    refine Ev.succ ?_
    have hle := szL_le t.f2 j hj
    simp only [types_Size.l0]
    refine Ev.pos (by omega) (Ev.pos (by omega) (Ev.pos (by omega) (?_)))
    rw [rdT t.f2 j hj]
    refine Ev.bind (ih _ (List.getElem_mem hj) (by omega)) ?_
    rw [w64s (by omega), w64 (by omega) (by omega)]
    rw [szL_take t.f2 j hj] at h
    exact h.cong (fun k => by congr 1; omega)
theorem mx_nat (a b : Nat) : mx (a : Int) (b : Int) = ((max a b : Nat) : Int) := by
  unfold mx
  split <;> omega
/-! ### names -/
def okC (c : Int) : Bool := !(decide (c < 33) || decide (c > 126) || c == 40 || c == 41 || c == 44 || c == 58 || c == 92 || c == 46 || c == 34)
def okFrom (s : ByteArray) : Nat → Nat → Bool
  | 0, _ => true
  | d + 1, j => okC (bt s (j : Int)) && okFrom s d (j + 1)
def nameB (s : ByteArray) : Bool := decide (0 < s.size) && decide (s.size ≤ 30) && okFrom s s.size 0
def varB (s : ByteArray) : Bool := nameB s && (bt s 0 == 39)
theorem toList_nil (s : ByteArray) : s.toList = [] ↔ s.size = 0 := by
  rw [Go.ByteArray.toList_eq, ← data_length s]
  exact List.length_eq_zero_iff.symm
theorem name_j1 (s : ByteArray) (c n i : Int) (b r : Bool) (h : Ev (fun k => types_name.l0 k s n (wrap64 (i + 1))) r) : Ev (fun k => types_name.j1 k s c n i b) (!b && !decide (c < 33) && !decide (c > 126) && r) := by
  refine Ev.succ ?_
  simp only [types_name.j1]
  refine Ev.ite (fun e => (Ev.pure _).val (by simp [e])) (fun e => Ev.ite (fun e2 => (Ev.pure _).val (by simp [e2])) (fun e2 => Ev.ite (fun e3 => (Ev.pure _).val (by simp [e3])) (fun e3 => h.val ?_)))
  rw [Bool.not_eq_true] at e
  simp [e, e2, e3]
theorem name_l0 (s : ByteArray) (hs : s.size ≤ 4611686018427387904) : ∀ (d j : Nat), j + d = s.size → Ev (fun k => types_name.l0 k s (s.size : Int) (j : Int)) (okFrom s d j && (decide (0 < s.size) && decide (s.size ≤ 30)))
  | 0, j, hj => by
    refine Ev.succ ?_
    simp only [types_name.l0]
    refine Ev.neg (by omega) (?_)
    refine Ev.ite (fun e => (Ev.pure _).val ?_) (fun e => (Ev.pure _).val ?_)
    · rw [toList_nil] at e
      simp [okFrom, e]
    · rw [toList_nil] at e
      have h0 : 0 < s.size := by omega
      simp only [okFrom, h0, decide_true, Bool.true_and]
      exact decide_eq_decide.2 (by omega)
  | d + 1, j, hj => by
    have ih := name_l0 s hs d (j + 1) (by omega)
    refine Ev.succ ?_
    simp only [types_name.l0]
    refine Ev.pos (by omega) (Ev.pos (by omega) (Ev.pos (by omega) (?_)))
    rw [← w64s (by omega)] at ih
    have hj1 := fun b => name_j1 s (bt s (j : Int)) (s.size : Int) (j : Int) b _ ih
    simp only [okFrom]
    generalize bt s (j : Int) = c at *
    generalize HR : (okFrom s d (j + 1) && (decide (0 < s.size) && decide (s.size ≤ 30))) = r at *
    refine Ev.ite (fun e => (hj1 _).val ?_) (fun e => Ev.ite (fun e2 => (hj1 _).val ?_) (fun e2 => Ev.ite (fun e3 => (hj1 _).val ?_) (fun e3 => Ev.ite (fun e4 => (hj1 _).val ?_) (fun e4 => Ev.ite (fun e5 => (hj1 _).val ?_) (fun e5 => Ev.ite (fun e6 => (hj1 _).val ?_) (fun e6 => (hj1 _).val ?_))))))
    · simp [okC, e]
    · simp [okC, e2]
    · simp [okC, e3]
    · simp [okC, e4]
    · simp [okC, e5]
    · simp [okC, e6]
    · simp only [okC, beq_eq_false_iff_ne.mpr e, beq_eq_false_iff_ne.mpr e2, beq_eq_false_iff_ne.mpr e3, beq_eq_false_iff_ne.mpr e4, beq_eq_false_iff_ne.mpr e5, beq_eq_false_iff_ne.mpr e6, Bool.or_false]
      rw [← HR]
      cases (c == 34) <;> cases decide (c < 33) <;> cases decide (c > 126) <;> simp [Bool.and_assoc]
theorem name_ev (s : ByteArray) (hs : s.size ≤ 4611686018427387904) : Ev (fun k => types_name.f k s) (nameB s) := by
  simp only [types_name.f]
  refine (name_l0 s hs s.size 0 (by omega)).val ?_
  unfold nameB
  cases okFrom s s.size 0 <;> simp
theorem nameB_pos {s : ByteArray} (h : nameB s = true) : 0 < s.size := by
  unfold nameB at h
  simp only [Bool.and_eq_true, decide_eq_true_eq] at h
  exact h.1.1
theorem variable_ev (s : ByteArray) (hs : s.size ≤ 4611686018427387904) : Ev (fun k => types_variable.f k s) (varB s) := by
  simp only [types_variable.f]
  unfold varB
  refine Ev.bind (name_ev s hs) (Ev.ite (fun e => Ev.pos (by have := nameB_pos e; omega) ((Ev.pure _).val (by simp [e]))) (fun e => (Ev.pure _).val (by simp [e])))
/-! ### types -/
def headB (v : Bool) (n : ByteArray) (m : Nat) : Bool := nameB n && (if v = true then (bt n 0 == 39) && (m == 0) else !(bt n 0 == 39) && decide (m ≤ 8))
mutual
def shB : S25 → Bool
  | ⟨v, n, l⟩ => headB v n l.length && shBL l
def shBL : List S25 → Bool
  | [] => true
  | a :: l => shB a && shBL l
end
theorem shB_eq (t : S25) : shB t = (headB t.f0 t.f1 t.f2.length && shBL t.f2) := by cases t; simp [shB]
theorem shBL_take (l : List S25) (j : Nat) (h : j < l.length) : shBL (l.take (j + 1)) = (shBL (l.take j) && shB l[j]) := by
  induction l generalizing j with
  | nil => simp at h
  | cons a l ih =>
    cases j with
    | zero => simp [shBL]
    | succ j =>
      simp only [List.length_cons] at h
      simp only [List.take_succ_cons, shBL, List.getElem_cons_succ]
      rw [ih j (by omega), Bool.and_assoc]
theorem shBL_drop (l : List S25) (j : Nat) (h : j < l.length) : shBL (l.drop j) = (shB l[j] && shBL (l.drop (j + 1))) := by
  rw [List.drop_eq_getElem_cons h]
  rfl
mutual
def allT (P : S25 → Prop) : S25 → Prop
  | ⟨v, n, l⟩ => P ⟨v, n, l⟩ ∧ allL P l
def allL (P : S25 → Prop) : List S25 → Prop
  | [] => True
  | a :: l => allT P a ∧ allL P l
end
theorem allT_eq (P : S25 → Prop) (t : S25) : allT P t ↔ P t ∧ allL P t.f2 := by cases t; simp [allT]
theorem allL_mem (P : S25 → Prop) : ∀ (l : List S25), allL P l ↔ ∀ x, x ∈ l → allT P x
  | [] => by simp [allL]
  | a :: l => by simp [allL, allL_mem P l]
/-- What any machine can hold. -/
def okS (s : ByteArray) : Prop := s.size ≤ 4611686018427387904
def fit (t : S25) : Prop := szT t ≤ 4611686018427387904 ∧ allT (fun x => okS x.f1) t
theorem fit_mem {t x : S25} (h : fit t) (hx : x ∈ t.f2) : fit x := by
  have h1 := szL_mem t.f2 x hx
  have h2 := szT_eq t
  exact ⟨by have := h.1; omega, (allL_mem _ _).1 ((allT_eq _ t).1 h.2).2 x hx⟩
theorem fit_name {t : S25} (h : fit t) : t.f1.size ≤ 4611686018427387904 := ((allT_eq _ t).1 h.2).1

/-- Every row and name is of a length that a machine can bear; of the whole tree nothing is said. -/
def wd (t : S25) : Prop := allT (fun x => okS x.f1 ∧ x.f2.length ≤ 4611686018427387904) t
theorem wd_mem {t x : S25} (h : wd t) (hx : x ∈ t.f2) : wd x := (allL_mem _ _).1 ((allT_eq _ t).1 h).2 x hx
theorem wd_name {t : S25} (h : wd t) : t.f1.size ≤ 4611686018427387904 := ((allT_eq _ t).1 h).1.1
theorem wd_len {t : S25} (h : wd t) : t.f2.length ≤ 4611686018427387904 := ((allT_eq _ t).1 h).1.2
theorem allT_imp {P Q : S25 → Prop} (hi : ∀ x, P x → Q x) (t : S25) : allT P t → allT Q t := by
  induction t using S_ind with
  | _ t ih =>
    intro h
    have h2 := (allT_eq _ t).1 h
    exact (allT_eq _ t).2 ⟨hi t h2.1, (allL_mem _ _).2 (fun x hx => ih x hx ((allL_mem _ _).1 h2.2 x hx))⟩
theorem fit_of_wd {t : S25} (h : wd t) (hs : szT t ≤ 4611686018427387904) : fit t := ⟨hs, allT_imp (fun _ h => h.1) t h⟩
theorem nat_beq0 (n : Nat) : ((n : Int) == 0) = (n == 0) := by
  cases n with
  | zero => rfl
  | succ n => rw [beq_eq_false_iff_ne.mpr (show ((n + 1 : Nat) : Int) ≠ 0 by omega), beq_eq_false_iff_ne.mpr (show n + 1 ≠ 0 by omega)]
theorem measure_ev (t : S25) : fit t → Ev (fun k => types_measure.f k t.f0 t.f1 t.f2) ((szT t : Int), (dpT t : Int), shB t) := by
  induction t using S_ind with
  | _ t ih =>
  intro hf
  have hb := hf.1
  have hd := dpT_le t
  rw [szT_eq] at hb hd
  rw [dpT_eq] at hd
  have hl := szL_len t.f2
  have hloop : ∀ (b : Bool) a0 a1, Ev (fun k => types_measure.j0 k 1 0 b a0 a1 t.f2) ((szT t : Int), (dpT t : Int), b && shBL t.f2) := by
    intro b a0 a1
    refine Ev.succ ?_
    simp only [types_measure.j0]
    refine Ev.cong (down (fun j => Ev (fun k => types_measure.l0 k ((1 + szL (t.f2.take j) : Nat) : Int) ((dpL (t.f2.take j) : Nat) : Int) (b && shBL (t.f2.take j)) t.f2 (t.f2.length : Int) (j : Int)) ((szT t : Int), (dpT t : Int), b && shBL t.f2)) t.f2.length ?_ ?_) (fun k => by simp [szL, dpL, shBL])
    · refine Ev.succ ?_
      simp only [types_measure.l0, List.take_length]
      refine Ev.neg (by omega) ((Ev.pure _).val ?_)
      rw [szT_eq, dpT_eq, w64 (by omega) (by omega)]
      exact Prod.ext (by simp; omega) (Prod.ext (by simp) rfl)
    · intro j hj h
      refine Ev.succ ?_
      have hle := szL_le t.f2 j hj
      simp only [types_measure.l0]
      refine Ev.pos (by omega) (Ev.pos (by omega) (Ev.pos (by omega) ?_))
      rw [rdT t.f2 j hj]
      refine Ev.bind (ih _ (List.getElem_mem hj) (fit_mem hf (List.getElem_mem hj))) ?_
      dsimp only
      rw [w64s (by omega), mx_nat, w64 (by omega) (by omega)]
      rw [szL_take t.f2 j hj, dpL_take t.f2 j hj, shBL_take t.f2 j hj] at h
      refine Ev.ite (fun e => ?_) (fun e => ?_)
      · simp only [Bool.and_eq_true] at e
        rw [e.1, e.2] at h
        simp only [Bool.true_and] at h
        rw [e.1]
        exact h.cong (fun k => by congr 1; omega)
      · have e2 : (b && (shBL (t.f2.take j) && shB t.f2[j])) = false := by
          rw [← Bool.and_assoc]
          rw [Bool.not_eq_true] at e
          rw [e]
          rfl
        rw [e2] at h
        exact h.cong (fun k => by congr 1; omega)
  have hn := fit_name hf
  refine Ev.succ ?_
  simp only [types_measure.f]
  rw [shB_eq]
  unfold headB
  refine Ev.ite (fun e => ?_) (fun e => ?_)
  · refine Ev.bind (variable_ev _ hn) (Ev.ite (fun e2 => (hloop _ _ _).val ?_) (fun e2 => (hloop _ _ _).val ?_))
    · unfold varB at e2
      simp only [Bool.and_eq_true] at e2
      rw [if_pos e, e2.1, e2.2, nat_beq0]
      simp
    · unfold varB at e2
      rw [Bool.not_eq_true] at e2
      rw [if_pos e, ← Bool.and_assoc, e2]
      simp
  · rw [if_neg e]
    refine Ev.bind (name_ev _ hn) (Ev.ite (fun e2 => Ev.pos (by have := nameB_pos e2; omega) (Ev.ite (fun e3 => (hloop _ _ _).val ?_) (fun e3 => (hloop _ _ _).val ?_))) (fun e2 => (hloop _ _ _).val ?_))
    · simp [e3]
    · rw [e2, beq_eq_false_iff_ne.mpr e3, show decide ((t.f2.length : Int) ≤ 8) = decide (t.f2.length ≤ 8) from decide_eq_decide.2 (by omega)]
      simp
    · rw [Bool.not_eq_true] at e2
      rw [e2]
      simp
def chkB (t : S25) : Bool := shB t && decide (szT t ≤ 500) && decide (dpT t ≤ 200)
theorem check_ev (t : S25) (hf : fit t) : Ev (fun k => types_Check.f k t.f0 t.f1 t.f2) (if chkB t = true then 0 else 10) := by
  simp only [types_Check.f]
  unfold chkB
  refine Ev.bind (measure_ev t hf) ?_
  dsimp only
  refine Ev.ite (fun e => Ev.ite (fun e2 => (Ev.pure _).val ?_) (fun e2 => Ev.ite (fun e3 => (Ev.pure _).val ?_) (fun e3 => (Ev.pure _).val ?_))) (fun e => (Ev.pure _).val ?_)
  · rw [decide_eq_false (show ¬ szT t ≤ 500 by omega)]
    simp
  · rw [decide_eq_false (show ¬ dpT t ≤ 200 by omega)]
    simp
  · rw [decide_eq_true (show szT t ≤ 500 by omega), decide_eq_true (show dpT t ≤ 200 by omega), e]
    simp
  · rw [Bool.not_eq_true] at e
    rw [e]
    simp
end Go.Proofs.Ytgnklkmifcmlhaa.Q
/- Proved here: what the reference's Compare and Same answer in the end. Conditions: those that each theorem names. -/
namespace Go.Proofs.Ytgnklkmifcmlhaa.Q
open Go.RowKit Go.Shelf Go.Proofs.YtgnklkmifcmlhaaW.PrintWords Go.Proofs.YtgnklkmifcmlhaaW.PrintMore
set_option linter.unusedVariables false
set_option linter.unusedSimpArgs false

/-! ### Compare and Same of the reference -/
theorem cmpB_eq : ∀ x y : List UInt8, Lib.compareBytes x y = if x = y then 0 else if Op.bytesLess x y = true then -1 else 1
  | [], [] => by simp [Lib.compareBytes]
  | [], _ :: _ => by simp [Lib.compareBytes, Op.bytesLess]
  | _ :: _, [] => by simp [Lib.compareBytes, Op.bytesLess]
  | a :: x, b :: y => by
    simp only [Lib.compareBytes, Op.bytesLess, cmpB_eq x y]
    by_cases h1 : a < b
    · have hne : ¬ a = b := by rintro rfl; exact absurd h1 (UInt8.lt_irrefl a)
      simp [h1, hne]
    · by_cases h2 : b < a
      · have hne : ¬ a = b := by rintro rfl; exact absurd h2 (UInt8.lt_irrefl a)
        simp [h1, h2, hne]
      · have he : a = b := by
          apply UInt8.le_antisymm
          · exact UInt8.not_lt.1 h2
          · exact UInt8.not_lt.1 h1
        subst he
        simp [h1]
theorem bytes_toList (a b : ByteArray) : a.toList = b.toList ↔ a = b := by
  rw [Go.ByteArray.toList_eq, Go.ByteArray.toList_eq]
  constructor
  · intro h
    cases a; cases b
    simp only at h
    congr 1
    exact Array.toList_inj.1 h
  · rintro rfl; rfl
theorem cmpI_zero (a b : Int) : cmpI a b = 0 ↔ a = b := by
  unfold cmpI
  split
  · omega
  · split <;> omega
theorem refcmp_ev (x : S25) : ∀ y : S25, szT x ≤ 4611686018427387904 → Ev (fun k => sequentref01_Compare.f k x.f0 x.f1 x.f2 y.f0 y.f1 y.f2) (cmpT x y) := by
  induction x using S_ind with
  | _ x ih =>
    intro y hx
    rw [szT_eq] at hx
    have hl := szL_len x.f2
    rw [cmpT_eq]
    unfold headC or3
    refine Ev.succ ?_
    simp only [sequentref01_Compare.f]
    have hb := cmpB_eq x.f1.data.toList y.f1.data.toList
    rw [← Go.ByteArray.toList_eq, ← Go.ByteArray.toList_eq] at hb
    rw [← Go.ByteArray.toList_eq, ← Go.ByteArray.toList_eq]
    refine Ev.ite (fun e => ?_) (fun e => ?_)
    · refine Ev.ite (fun e2 => (Ev.pure _).val ?_) (fun e2 => (Ev.pure _).val ?_)
      · have h1 : y.f0 = false := by cases hy : y.f0 <;> simp_all
        rw [e2, h1]
        simp [rankT, cmpI]
      · rw [Bool.not_eq_true] at e2
        have h1 : y.f0 = true := by cases hy : y.f0 <;> simp_all
        rw [e2, h1]
        simp [rankT, cmpI]
    · have h0 : x.f0 = y.f0 := by cases hy : y.f0 <;> cases hx : x.f0 <;> simp_all
      rw [h0, show cmpI (rankT y.f0) (rankT y.f0) = 0 from (cmpI_zero _ _).2 rfl]
      simp only [ne_eq, not_true_eq_false, if_false]
      rw [hb]
      refine Ev.ite (fun e2 => ?_) (fun e2 => ?_)
      · rw [if_pos e2]
        simp only [not_true_eq_false, if_false]
        refine Ev.ite (fun e3 => ?_) (fun e3 => ?_)
        · rw [(cmpI_zero _ _).2 e3]
          simp only [not_true_eq_false, if_false]
          have hlen : x.f2.length = y.f2.length := by omega
          refine down (fun j => Ev (fun k => sequentref01_Compare.l0 k (j : Int) y.f0 x.f1 x.f2 y.f0 y.f1 y.f2) (cmpL (x.f2.drop j) (y.f2.drop j))) x.f2.length ?_ ?_
          · refine Ev.succ ?_
            simp only [sequentref01_Compare.l0]
            refine Ev.neg (by omega) ((Ev.pure _).val ?_)
            rw [List.drop_length, hlen, List.drop_length]
            rfl
          · intro j hj h
            refine Ev.succ ?_
            simp only [sequentref01_Compare.l0]
            refine Ev.pos (by omega) (Ev.pos (by omega) (Ev.pos (by omega) ?_))
            rw [rdT x.f2 j hj, rdT y.f2 j (by omega)]
            have hm := szL_mem x.f2 _ (List.getElem_mem hj)
            refine Ev.bind (ih _ (List.getElem_mem hj) y.f2[j] (by omega)) ?_
            rw [List.drop_eq_getElem_cons hj, List.drop_eq_getElem_cons (show j < y.f2.length by omega), cmpL, w64s (by omega)]
            refine Ev.ite (fun e4 => ?_) (fun e4 => (Ev.pure _).val ?_)
            · rw [if_neg (by simp [e4])]
              exact h
            · rw [if_pos e4]
        · have hne : ¬ cmpI (x.f2.length : Int) (y.f2.length : Int) = 0 := fun h => e3 ((cmpI_zero _ _).1 h)
          rw [if_pos hne]
          refine Ev.ite (fun e4 => (Ev.pure _).val ?_) (fun e4 => (Ev.pure _).val ?_)
          · unfold cmpI; rw [if_pos e4]
          · unfold cmpI; rw [if_neg e4, if_pos (by omega)]
      · rw [if_neg e2]
        refine Ev.ite (fun e3 => (Ev.pure _).val ?_) (fun e3 => (Ev.pure _).val ?_)
        · rw [if_pos e3]; simp
        · rw [if_neg e3]; simp
mutual
theorem cmpT_self : ∀ x : S25, cmpT x x = 0
  | ⟨v, n, l⟩ => by
    rw [cmpT_eq]
    have h : headC (⟨v, n, l⟩ : S25) ⟨v, n, l⟩ = 0 := by
      unfold headC or3
      rw [(cmpI_zero _ _).2 rfl, (cmpI_zero _ _).2 rfl, cmpB_eq, if_pos rfl]
      simp
    rw [h]
    simp only [ne_eq, not_true_eq_false, if_false]
    exact cmpL_self l
theorem cmpL_self : ∀ l : List S25, cmpL l l = 0
  | [] => rfl
  | a :: l => by simp [cmpL, cmpT_self a, cmpL_self l]
end
theorem same_ev (x y : S25) (hx : szT x ≤ 4611686018427387904) : Ev (fun k => sequentref01_Same.f k x.f0 x.f1 x.f2 y.f0 y.f1 y.f2) (cmpT x y == 0) := by
  simp only [sequentref01_Same.f]
  exact Ev.bind (refcmp_ev x y hx) (Ev.pure _)

end Go.Proofs.Ytgnklkmifcmlhaa.Q
/- Proved here: rows of bindings under construction (append), each binding's type being a tree of the call's own. Conditions: those that each theorem names. -/
namespace Go.Proofs.Ytgnklkmifcmlhaa.Q
open Go.RowKit Go.Proofs.YtgnklkmifcmlhaaW.PrintWords Go.Proofs.YtgnklkmifcmlhaaW.PrintMore
set_option linter.unusedVariables false
set_option linter.unusedSimpArgs false

end Go.Proofs.Ytgnklkmifcmlhaa.Q
/- Proved here: the contract of types.Same. Conditions: those that each theorem names. -/
namespace Go.Proofs.Ytgnklkmifcmlhaa.Q
open Go.RowKit Go.Shelf Go.Proofs.YtgnklkmifcmlhaaW.PrintWords Go.Proofs.YtgnklkmifcmlhaaW.PrintMore
set_option linter.unusedVariables false
set_option linter.unusedSimpArgs false
attribute [local go_sem] Oper.semAt_some
set_option maxHeartbeats 1000000 in
set_option maxRecDepth 100000 in
theorem same_calls (x y : S25) (A : Option Addr) (c : Nat) (B : Option Addr) (d : Nat) (w : World) (hA : k25.C w A x.f2.length x.f2) (hc : x.f2.length ≤ c) (hB : k25.C w B y.f2.length y.f2) (hd : y.f2.length ≤ d) :
    Calls Try.prog 35 #[.agg #[.bool x.f0, .string x.f1, .slice A x.f2.length c], .agg #[.bool y.f0, .string y.f1, .slice B y.f2.length d]] w fun e w' => e = .returned (.bool (cmpT x y == 0)) ∧ Below w.heap.size w w' := by
  have hcmp := fun W (hw : Below w.heap.size w W) => compare_ok _ x y (Nat.le_refl _) A c B d W (Kd.C_below hA hw) hc (Kd.C_below hB hw) hd
  have hb2 := below_two (w := w) (.cells #[.bool x.f0, .string x.f1, .slice A x.f2.length c] 25) (.cells #[.bool y.f0, .string y.f1, .slice B y.f2.length d] 25)
  clear hA hB hc hd
  go_enter Try.func35, Try.ntmps35
  go_wp2_with (go_at_call 33; refine (hcmp _ (by first | exact hb2 | exact Below.refl _ _)).mono ?_; rintro e W1 ⟨rfl, h1⟩)
  go_ret
  exact ⟨by simp, by first | exact below_step hb2 h1 | exact h1⟩
end Go.Proofs.Ytgnklkmifcmlhaa.Q
/- Proved here: the contract of types.match. Conditions: those that each theorem names. -/
namespace Go.Proofs.Ytgnklkmifcmlhaa.Q
open Go.RowKit Go.Shelf Go.Proofs.YtgnklkmifcmlhaaW.PrintWords Go.Proofs.YtgnklkmifcmlhaaW.PrintMore
set_option linter.unusedVariables false
set_option linter.unusedSimpArgs false
attribute [local go_sem] Oper.semAt_some

/-! ### match -/
theorem grown_of_below {w w' : World} (h : Below w.heap.size w w') (row : Option Nat) : w.grownBy w' row := ⟨h.os, h.tape, h.output, h.size, fun k hk _ => h.block k hk⟩

theorem _root_.Go.World.grownBy.trans2 {a b c : World} {u v : Value} (h : a.grownBy b u.ownBlock) (k : b.grownBy c v.ownBlock) (ho : v.ownBlock = u.ownBlock ∨ ∃ g, v.ownBlock = some g ∧ a.heap.size ≤ g) : a.grownBy c u.ownBlock :=
  ⟨k.os.trans h.os, k.tape.trans h.tape, k.output.trans h.output, Nat.le_trans h.size k.size, fun i hi hn => (k.block i (Nat.lt_of_lt_of_le hi h.size) (by
    rcases ho with ho | ⟨g, ho, hg⟩
    · rw [ho]; exact hn
    · rw [ho]; intro e; injection e with e; omega)).trans (h.block i hi hn)⟩
theorem own_trans {m n : Nat} {u v z : Value} (hmn : m ≤ n) (h : v.ownBlock = u.ownBlock ∨ ∃ g, v.ownBlock = some g ∧ m ≤ g) (k : z.ownBlock = v.ownBlock ∨ ∃ g, z.ownBlock = some g ∧ n ≤ g) : z.ownBlock = u.ownBlock ∨ ∃ g, z.ownBlock = some g ∧ m ≤ g := by
  rcases k with k | ⟨g, k, hg⟩
  · rw [k]; exact h
  · exact .inr ⟨g, k, by omega⟩
end Go.Proofs.Ytgnklkmifcmlhaa.Q
/- Proved here: the contracts of types.Fun, types.Bool and of the laws' v. Conditions: those that each theorem names. -/
namespace Go.Proofs.Ytgnklkmifcmlhaa.Q
open Go.RowKit Go.Shelf Go.Proofs.YtgnklkmifcmlhaaW.PrintWords Go.Proofs.YtgnklkmifcmlhaaW.PrintMore
set_option linter.unusedVariables false
set_option linter.unusedSimpArgs false
attribute [local go_sem] Oper.semAt_some

def funN : ByteArray := ⟨#[102, 117, 110]⟩
def boolN : ByteArray := ⟨#[98, 111, 111, 108]⟩
theorem below_three {w : World} (o o' o'' : Obj) : Below w.heap.size w (((w.alloc o).alloc o').alloc o'') := (below_two o o').alloc (by simp; omega) _
theorem blk_third {w : World} (o o' o'' : Obj) : (((w.alloc o).alloc o').alloc o'').heap[w.heap.size + 2]? = some o'' := by have := blk_new ((w.alloc o).alloc o') o''; simpa using this
theorem WT_two {w : World} {ok : Nat → Prop} {g : Nat} {x y : S25} {u v : Value} (hg : ok g) (hb : w.heap[g]? = some (.cells #[.bool x.f0, .string x.f1, u, .bool y.f0, .string y.f1, v] 25 (0, 0))) (hu : WT w ok u x.f2) (hv : WT w ok v y.f2) :
    WT w ok (.slice (some ⟨g, 0, none⟩) 2 2) [x, y] := by
  refine WT.row g 2 _ [x, y] (fun j => if j = 0 then u else v) (by simp) hg hb (by simp) (by omega) rfl ?_ ?_ ?_ ?_
  all_goals intro j hj
  all_goals (obtain rfl | rfl : j = 0 ∨ j = 1 := by simp at hj; omega)
  all_goals first | rfl | exact hu | exact hv

set_option maxHeartbeats 2000000 in
set_option maxRecDepth 100000 in
theorem bool_calls (w : World) : Calls Try.prog 38 #[] w fun e w' => e = .returned (.agg #[.bool false, .string boolN, .slice none 0 0]) ∧ Below w.heap.size w w' := by
  have BK := blk_new w (.cells #[.bool false, .string ⟨#[]⟩, .slice none 0 0] 25)
  have hb0 := below_one (w := w) (.cells #[.bool false, .string ⟨#[]⟩, .slice none 0 0] 25)
  obtain ⟨x0, x1, x2, x3, x4, x5, x6⟩ := box3s BK
  go_enter Try.func38, Try.ntmps38
  go_wp2_with fail
  refine bodyPost_ret (results_cell_row rfl _ _ w.heap.size 25 #[.bool false, .string boolN, .slice none 0 0] (0, 0) _ rfl (blk_new w _) Try.underlying25 rfl (by kernel_rfl)) rfl ?_
  exact ⟨rfl, below_one _⟩
abbrev FunS (w : World) (x y : S25) (A : Option Addr) (c : Nat) (B : Option Addr) (d : Nat) (W : World) : Prop :=
  W.cell? ⟨w.heap.size, 0, none⟩ = some (.bool x.f0) ∧ W.cell? ⟨w.heap.size, 1, none⟩ = some (.string x.f1) ∧ W.cell? ⟨w.heap.size, 2, none⟩ = some (.slice A x.f2.length c) ∧
    W.cell? ⟨w.heap.size + 1, 0, none⟩ = some (.bool y.f0) ∧ W.cell? ⟨w.heap.size + 1, 1, none⟩ = some (.string y.f1) ∧ W.cell? ⟨w.heap.size + 1, 2, none⟩ = some (.slice B y.f2.length d) ∧ Below w.heap.size w W
theorem FunS.step {w : World} {x y : S25} {A : Option Addr} {c : Nat} {B : Option Addr} {d : Nat} {W W' : World} (h : FunS w x y A c B d W) (hb : Below W.heap.size W W') : FunS w x y A c B d W' :=
  ⟨pw_cell_below hb h.1, pw_cell_below hb h.2.1, pw_cell_below hb h.2.2.1, pw_cell_below hb h.2.2.2.1, pw_cell_below hb h.2.2.2.2.1, pw_cell_below hb h.2.2.2.2.2.1, below_step h.2.2.2.2.2.2 hb⟩
theorem FunS.put {w : World} {x y : S25} {A : Option Addr} {c : Nat} {B : Option Addr} {d : Nat} {W : World} (h : FunS w x y A c B d W) (p q r : Value) : FunS w x y A c B d (((W.setCell ⟨w.heap.size + 2, 0, none⟩ p).setCell ⟨w.heap.size + 2, 1, none⟩ q).setCell ⟨w.heap.size + 2, 2, none⟩ r) := by
  have n0 : w.heap.size ≠ w.heap.size + 2 := by omega
  have n1 : w.heap.size + 1 ≠ w.heap.size + 2 := by omega
  obtain ⟨h0, h1, h2, h3, h4, h5, h6⟩ := h
  exact ⟨cell_away (cell_away (cell_away h0 n0) n0) n0, cell_away (cell_away (cell_away h1 n0) n0) n0, cell_away (cell_away (cell_away h2 n0) n0) n0, cell_away (cell_away (cell_away h3 n1) n1) n1, cell_away (cell_away (cell_away h4 n1) n1) n1, cell_away (cell_away (cell_away h5 n1) n1) n1, ((h6.setCell (by simp) _).setCell (by simp) _).setCell (by simp) _⟩
set_option maxHeartbeats 2000000 in
set_option maxRecDepth 100000 in
theorem fun_calls (x y : S25) (A : Option Addr) (c : Nat) (B : Option Addr) (d : Nat) (w : World) (hA : k25.C w A x.f2.length x.f2) (hc : x.f2.length ≤ c) (hB : k25.C w B y.f2.length y.f2) (hd : y.f2.length ≤ d) (hx : szT x ≤ 5864062014805) (hy : szT y ≤ 5864062014805) :
    Calls Try.prog 36 #[.agg #[.bool x.f0, .string x.f1, .slice A x.f2.length c], .agg #[.bool y.f0, .string y.f1, .slice B y.f2.length d]] w fun e w' => ∃ v, e = .returned (.agg #[.bool false, .string funN, v]) ∧ WT w' (fun k => w.heap.size ≤ k) v [x, y] ∧ Below w.heap.size w w' := by
  have hb0 := below_three (w := w) (.cells #[.bool x.f0, .string x.f1, .slice A x.f2.length c] 25) (.cells #[.bool y.f0, .string y.f1, .slice B y.f2.length d] 25) (.cells #[.bool false, .string ⟨#[]⟩, .slice none 0 0] 25)
  have B0 := blk_alloc (blk_mid (w := w) (.cells #[.bool x.f0, .string x.f1, .slice A x.f2.length c] 25) (.cells #[.bool y.f0, .string y.f1, .slice B y.f2.length d] 25)) (.cells #[.bool false, .string ⟨#[]⟩, .slice none 0 0] 25)
  have C0 := blk_alloc (blk_top (w := w) (.cells #[.bool x.f0, .string x.f1, .slice A x.f2.length c] 25) (.cells #[.bool y.f0, .string y.f1, .slice B y.f2.length d] 25)) (.cells #[.bool false, .string ⟨#[]⟩, .slice none 0 0] 25)
  have D0 := blk_third (w := w) (.cells #[.bool x.f0, .string x.f1, .slice A x.f2.length c] 25) (.cells #[.bool y.f0, .string y.f1, .slice B y.f2.length d] 25) (.cells #[.bool false, .string ⟨#[]⟩, .slice none 0 0] 25)
  have hta := fun W (hw : FunS w x y A c B d W) => (twin_calls (szT x) x A c W (Nat.le_refl _) hx (Kd.C_below hA hw.2.2.2.2.2.2) hc).mono (fun _ W' h => show ∃ v, _ ∧ WT W' (fun k => W.heap.size ≤ k) v _ ∧ Below W.heap.size W W' ∧ FunS w x y A c B d W' from by obtain ⟨v, h1, h2, h3⟩ := h; exact ⟨v, h1, h2, h3, hw.step h3⟩)
  have htb := fun W (hw : FunS w x y A c B d W) => (twin_calls (szT y) y B d W (Nat.le_refl _) hy (Kd.C_below hB hw.2.2.2.2.2.2) hd).mono (fun _ W' h => show ∃ v, _ ∧ WT W' (fun k => W.heap.size ≤ k) v _ ∧ Below W.heap.size W W' ∧ FunS w x y A c B d W' from by obtain ⟨v, h1, h2, h3⟩ := h; exact ⟨v, h1, h2, h3, hw.step h3⟩)
  obtain ⟨a0, a1, a2, _, _, _, _⟩ := box3s B0
  obtain ⟨b0, b1, b2, _, _, _, _⟩ := box3s C0
  clear hA hB
  go_enter Try.func36, Try.ntmps36
  go_wp2_with fail
  obtain ⟨W0, hW0⟩ : ∃ W0, ((w.alloc (.cells #[.bool x.f0, .string x.f1, .slice A x.f2.length c] 25)).alloc (.cells #[.bool y.f0, .string y.f1, .slice B y.f2.length d] 25)).alloc (.cells #[.bool false, .string ⟨#[]⟩, .slice none 0 0] 25) = W0 := ⟨_, rfl⟩
  have hsz : W0.heap.size = w.heap.size + 3 := by rw [← hW0]; simp
  rw [hW0] at hb0 B0 C0 D0 a0 a1 a2 b0 b1 b2 ⊢
  clear hW0 B0 C0
  have hS0 : FunS w x y A c B d W0.drew := ⟨a0, a1, a2, b0, b1, b2, below_drew1 hb0⟩
  go_region_held3 (fun W => FunS w x y A c B d W)
    (first | (with_reducible exact hS0) | (with_reducible assumption) | (with_reducible exact FunS.step (by assumption) (below_one _)) | exact FunS.step (FunS.put (by with_reducible assumption) _ _ _) (below_one _))
    (first
      | (go_at_call 27; (with_reducible refine (htb _ (by with_reducible assumption)).mono ?_); rintro e w2 ⟨v2, rfl, hT2, hc2, hN⟩; have D2 := blk_below D1 hc2; obtain ⟨A2, c2, hv2, _⟩ := hT2.reads; subst hv2; have hT1' := hT1.later hc2; obtain ⟨x0, x1, x2, x3, x4, x5, x6⟩ := box3s D2)
      | (go_at_call 27; (with_reducible refine (hta _ (by with_reducible assumption)).mono ?_); rintro e w1 ⟨v1, rfl, hT1, hc1, hN⟩; have hbN := below_step (below_drew1 (Below.refl _ W0)) hc1; have D1 := blk_below D0 hbN; obtain ⟨A1, c1, hv1, _⟩ := hT1.reads; subst hv1))
  have hb2 := hN.2.2.2.2.2.2
  have z1 := hc1.size
  have z2 := hc2.size
  simp only [World.size_drew] at z1
  go_wp2
  refine bodyPost_ret (results_cell_row rfl _ _ (w.heap.size + 2) 25 #[.bool false, .string funN, .slice (some ⟨w2.heap.size, 0, none⟩) 2 2] (0, 0) _ rfl (blk_alloc (set3 D2) _) Try.underlying25 rfl (by kernel_rfl)) rfl ?_
  have hfar : ∀ {v : Value} {l : List S25} (o : Obj) (p q r : Value), WT w2 (fun k => w.heap.size + 3 ≤ k) v l → WT ((((w2.setCell ⟨w.heap.size + 2, 0, none⟩ p).setCell ⟨w.heap.size + 2, 1, none⟩ q).setCell ⟨w.heap.size + 2, 2, none⟩ r).alloc o) (fun k => w.heap.size ≤ k) v l := by
    intro v l o p q r h
    refine WT.mono ((((h.far _ _ ?_).far _ _ ?_).far _ _ ?_).later (below_one _)) (fun k hk => by omega)
    all_goals (intro k hk; show k ≠ w.heap.size + 2; omega)
  refine ⟨_, rfl, WT_two (by omega) ?_ (hfar _ _ _ _ (hT1'.mono (fun k hk => by simp at hk; omega))) (hfar _ _ _ _ (hT2.mono (fun k hk => by omega))), (((hb2.setCell (by simp; omega) _).setCell (by simp; omega) _).setCell (by simp; omega) _).alloc (by have := hb2.size; simp; omega) _⟩
  have hnew := blk_new (((w2.setCell ⟨w.heap.size + 2, 0, none⟩ (.bool false)).setCell ⟨w.heap.size + 2, 1, none⟩ (.string ⟨#[102, 117, 110]⟩)).setCell ⟨w.heap.size + 2, 2, none⟩ (.slice (some ⟨w2.heap.size, 0, none⟩) 2 2)) (.cells #[.bool x.f0, .string x.f1, .slice A1 x.f2.length c1, .bool y.f0, .string y.f1, .slice A2 y.f2.length c2] 25)
  simpa using hnew
end Go.Proofs.Ytgnklkmifcmlhaa.Q
/- Proved here: valid substitutions: what types.valid answers. Conditions: those that each theorem names. -/
namespace Go.Proofs.Ytgnklkmifcmlhaa.Q
open Go.RowKit Go.Shelf Go.Proofs.YtgnklkmifcmlhaaW.PrintWords Go.Proofs.YtgnklkmifcmlhaaW.PrintMore
set_option linter.unusedVariables false
set_option linter.unusedSimpArgs false
attribute [local go_sem] Oper.semAt_some

/-! ### What Inst answers -/
theorem chkB_sh {t : S25} (h : chkB t = true) : shB t = true ∧ szT t ≤ 500 ∧ dpT t ≤ 200 := by
  unfold chkB at h
  simp only [Bool.and_eq_true, decide_eq_true_eq] at h
  exact ⟨h.1.1, h.1.2, h.2⟩
end Go.Proofs.Ytgnklkmifcmlhaa.Q
/- Proved here: the contract of types.Match. Conditions: those that each theorem names. -/
namespace Go.Proofs.Ytgnklkmifcmlhaa.Q
open Go.RowKit Go.Shelf Go.Proofs.YtgnklkmifcmlhaaW.PrintWords Go.Proofs.YtgnklkmifcmlhaaW.PrintMore
set_option linter.unusedVariables false
set_option linter.unusedSimpArgs false
attribute [local go_sem] Oper.semAt_some

/-! ### Match -/
end Go.Proofs.Ytgnklkmifcmlhaa.Q
/- Proved here: the contract of types.DestFun. Conditions: those that each theorem names. -/
namespace Go.Proofs.Ytgnklkmifcmlhaa.Q
open Go.RowKit Go.Shelf Go.Proofs.YtgnklkmifcmlhaaW.PrintWords Go.Proofs.YtgnklkmifcmlhaaW.PrintMore
set_option linter.unusedVariables false
set_option linter.unusedSimpArgs false
attribute [local go_sem] Oper.semAt_some

def zT : S25 := ⟨false, ⟨#[]⟩, []⟩
def destF (t : S25) : S25 × S25 × Bool :=
  if t.f0 = false ∧ t.f1 = funN ∧ t.f2.length = 2 then (t.f2.getD 0 zT, t.f2.getD 1 zT, true) else (zT, zT, false)
def DestPost (w : World) (r : S25 × S25 × Bool) (e : Ending) (w' : World) : Prop :=
  ∃ v1 v2, e = .returned (.tuple #[.agg #[.bool r.1.f0, .string r.1.f1, v1], .agg #[.bool r.2.1.f0, .string r.2.1.f1, v2], .bool r.2.2]) ∧ WT w' (fun k => w.heap.size ≤ k) v1 r.1.f2 ∧ WT w' (fun k => w.heap.size ≤ k) v2 r.2.1.f2 ∧ Below w.heap.size w w'
abbrev DesS (w : World) (ad : Addr) (c : Nat) (x y : S25) (A : Option Addr) (ca : Nat) (B : Option Addr) (cb : Nat) (W : World) : Prop :=
  W.cell? ⟨w.heap.size, 0, none⟩ = some (.bool false) ∧ W.cell? ⟨w.heap.size, 1, none⟩ = some (.string ⟨#[102, 117, 110]⟩) ∧ W.cell? ⟨w.heap.size, 2, none⟩ = some (.slice (some ad) 2 c) ∧
    W.cell? ad = some (.bool x.f0) ∧ W.cell? ⟨ad.block, ad.off + 1, none⟩ = some (.string x.f1) ∧ W.cell? ⟨ad.block, ad.off + 2, none⟩ = some (.slice A x.f2.length ca) ∧
    W.cell? ⟨ad.block, ad.off + 3, none⟩ = some (.bool y.f0) ∧ W.cell? ⟨ad.block, ad.off + 3 + 1, none⟩ = some (.string y.f1) ∧ W.cell? ⟨ad.block, ad.off + 3 + 2, none⟩ = some (.slice B y.f2.length cb) ∧ Below w.heap.size w W
set_option maxHeartbeats 2000000 in
set_option maxRecDepth 100000 in
theorem dest_calls (t : S25) (A : Option Addr) (c : Nat) (w : World) (hA : k25.C w A t.f2.length t.f2) (hc : t.f2.length ≤ c) (hsz : szT t ≤ 5864062014805) :
    Calls Try.prog 25 #[.agg #[.bool t.f0, .string t.f1, .slice A t.f2.length c]] w (DestPost w (destF t)) := by
  have hb0 := below_three (w := w) (.cells #[.bool t.f0, .string t.f1, .slice A t.f2.length c] 25) (.cells #[.bool false, .string ⟨#[]⟩, .slice none 0 0] 25) (.cells #[.bool false, .string ⟨#[]⟩, .slice none 0 0] 25)
  have B0 := blk_alloc (blk_mid (w := w) (.cells #[.bool t.f0, .string t.f1, .slice A t.f2.length c] 25) (.cells #[.bool false, .string ⟨#[]⟩, .slice none 0 0] 25)) (.cells #[.bool false, .string ⟨#[]⟩, .slice none 0 0] 25)
  have C0 := blk_alloc (blk_top (w := w) (.cells #[.bool t.f0, .string t.f1, .slice A t.f2.length c] 25) (.cells #[.bool false, .string ⟨#[]⟩, .slice none 0 0] 25)) (.cells #[.bool false, .string ⟨#[]⟩, .slice none 0 0] 25)
  have D0 := blk_third (w := w) (.cells #[.bool t.f0, .string t.f1, .slice A t.f2.length c] 25) (.cells #[.bool false, .string ⟨#[]⟩, .slice none 0 0] 25) (.cells #[.bool false, .string ⟨#[]⟩, .slice none 0 0] 25)
  obtain ⟨a0, a1, a2, a3, a4, a5, a6⟩ := box3s B0
  obtain ⟨b0, b1, b2, b3, b4, b5, b6⟩ := box3s C0
  obtain ⟨d0, d1, d2, d3, d4, d5, d6⟩ := box3s D0
  unfold destF
  by_cases hok : t.f0 = false ∧ t.f1 = funN ∧ t.f2.length = 2
  case neg =>
    rw [if_neg hok]
    obtain ⟨tv, tn, tl⟩ := t
    dsimp only at *
    clear hA hsz
    cases tv with
    | true =>
      clear hok
      go_enter Try.func25, Try.ntmps25
      go_wp2
      go_region
      all_goals go_wp2
      all_goals (refine bodyPost_ret (v := .tuple #[.agg #[.bool false, .string ⟨#[]⟩, .slice none 0 0], .agg #[.bool false, .string ⟨#[]⟩, .slice none 0 0], .bool false]) (by simp [results, Try.results25, go_sem, b0, b1, b2, d0, d1, d2]) rfl ?_; exact ⟨_, _, rfl, .nil _ _, .nil _ _, below_drew1 hb0⟩)
    | false =>
      by_cases hn : tn = funN
      · have hl : ¬ tl.length = 2 := fun h => hok ⟨rfl, hn, h⟩
        obtain rfl : tn = ⟨#[102, 117, 110]⟩ := hn
        have e1 : ((tl.length : Int) != 2) = true := bne_iff_ne.mpr (by omega)
        have e2 : ((tl.length : Int) == 2) = false := beq_eq_false_iff_ne.mpr (by omega)
        have e3 : (tl.length == 2) = false := beq_eq_false_iff_ne.mpr hl
        have e4 : decide (tl.length = 2) = false := decide_eq_false hl
        clear hok hl
        go_enter Try.func25, Try.ntmps25
        go_wp2
        go_region
        all_goals go_wp2
        all_goals (refine bodyPost_ret (v := .tuple #[.agg #[.bool false, .string ⟨#[]⟩, .slice none 0 0], .agg #[.bool false, .string ⟨#[]⟩, .slice none 0 0], .bool false]) (by simp [results, Try.results25, go_sem, b0, b1, b2, d0, d1, d2]) rfl ?_; exact ⟨_, _, rfl, .nil _ _, .nil _ _, below_drew1 hb0⟩)
      · have e1 : (tn.toList == [102, 117, 110]) = false := beq_eq_false_iff_ne.mpr (fun h => hn (by
          rw [Go.ByteArray.toList_eq] at h
          cases tn
          simp only at h
          unfold funN
          congr 1
          rw [← Array.toList_inj]
          exact h))
        have e2 : (tn.toList != [102, 117, 110]) = true := by rw [bne, e1]; rfl
        have e3 : decide (tn.toList = [102, 117, 110]) = false := decide_eq_false (beq_eq_false_iff_ne.1 e1)
        clear hok
        go_enter Try.func25, Try.ntmps25
        go_wp2
        go_region
        all_goals go_wp2
        all_goals (refine bodyPost_ret (v := .tuple #[.agg #[.bool false, .string ⟨#[]⟩, .slice none 0 0], .agg #[.bool false, .string ⟨#[]⟩, .slice none 0 0], .bool false]) (by simp [results, Try.results25, go_sem, b0, b1, b2, d0, d1, d2]) rfl ?_; exact ⟨_, _, rfl, .nil _ _, .nil _ _, below_drew1 hb0⟩)
  case pos =>
    rw [if_pos hok]
    obtain ⟨tv, tn, tl⟩ := t
    dsimp only at *
    obtain ⟨rfl, hn, hl⟩ := hok
    obtain rfl : tn = ⟨#[102, 117, 110]⟩ := hn
    obtain ⟨x, y, rfl⟩ : ∃ x y, tl = [x, y] := by
      match tl, hl with
      | [x, y], _ => exact ⟨x, y, rfl⟩
    obtain ⟨ad, A0, c0, rfl, e0, e1, e2, l0, g0⟩ := at_T25 hA 0 (by omega) (by simp)
    obtain ⟨ad', A1, c1, he, f0, f1, f2, l1, g1⟩ := at_T25 hA 1 (by omega) (by simp)
    injection he with he
    subst he
    clear hl
    have hl2 : ([x, y] : List S25).length = 2 := rfl
    simp only [hl2] at hc hb0 B0 C0 D0 a0 a1 a2 a3 a4 a5 a6 b0 b1 b2 b3 b4 b5 b6 d0 d1 d2 d3 d4 d5 d6 ⊢
    have r0 : rd_T25 [x, y] 0 = x := rfl
    have r1 : rd_T25 [x, y] 1 = y := rfl
    rw [r0] at e0 e1 e2 l0 g0
    rw [r1] at f0 f1 f2 l1 g1
    have hx : szT x ≤ 5864062014805 := by simp only [szT, szL] at hsz; omega
    have hy : szT y ≤ 5864062014805 := by simp only [szT, szL] at hsz; omega
    obtain ⟨W0, hW0⟩ : ∃ W0, ((w.alloc (.cells #[.bool false, .string ⟨#[102, 117, 110]⟩, .slice (some ad) 2 c] 25)).alloc (.cells #[.bool false, .string ⟨#[]⟩, .slice none 0 0] 25)).alloc (.cells #[.bool false, .string ⟨#[]⟩, .slice none 0 0] 25) = W0 := ⟨_, rfl⟩
    have hB : DesS w ad c x y A0 c0 A1 c1 W0 := by
      rw [← hW0]
      exact ⟨a0, a1, a2, pw_cell_below hb0 e0, pw_cell_below hb0 e1, pw_cell_below hb0 e2, pw_cell_below hb0 f0, pw_cell_below hb0 f1, pw_cell_below hb0 f2, hb0⟩
    have hstep : ∀ W W', DesS w ad c x y A0 c0 A1 c1 W → Below W.heap.size W W' → DesS w ad c x y A0 c0 A1 c1 W' := fun W W' h hb =>
      ⟨pw_cell_below hb h.1, pw_cell_below hb h.2.1, pw_cell_below hb h.2.2.1, pw_cell_below hb h.2.2.2.1, pw_cell_below hb h.2.2.2.2.1, pw_cell_below hb h.2.2.2.2.2.1, pw_cell_below hb h.2.2.2.2.2.2.1, pw_cell_below hb h.2.2.2.2.2.2.2.1, pw_cell_below hb h.2.2.2.2.2.2.2.2.1, below_step h.2.2.2.2.2.2.2.2.2 hb⟩
    have hta := fun W (hw : DesS w ad c x y A0 c0 A1 c1 W) => (twin_calls (szT x) x A0 c0 W (Nat.le_refl _) hx (Kd.C_below g0 hw.2.2.2.2.2.2.2.2.2) l0).mono (fun _ W' h => show ∃ v, _ ∧ WT W' (fun k => W.heap.size ≤ k) v _ ∧ Below W.heap.size W W' ∧ DesS w ad c x y A0 c0 A1 c1 W' from by obtain ⟨v, h1, h2, h3⟩ := h; exact ⟨v, h1, h2, h3, hstep _ _ hw h3⟩)
    have htb := fun W (hw : DesS w ad c x y A0 c0 A1 c1 W) => (twin_calls (szT y) y A1 c1 W (Nat.le_refl _) hy (Kd.C_below g1 hw.2.2.2.2.2.2.2.2.2) l1).mono (fun _ W' h => show ∃ v, _ ∧ WT W' (fun k => W.heap.size ≤ k) v _ ∧ Below W.heap.size W W' ∧ DesS w ad c x y A0 c0 A1 c1 W' from by obtain ⟨v, h1, h2, h3⟩ := h; exact ⟨v, h1, h2, h3, hstep _ _ hw h3⟩)
    have hsz : W0.heap.size = w.heap.size + 3 := by rw [← hW0]; simp
    have hadb : ad.block < w.heap.size := World.block_lt_of_cell? w ⟨ad.block, ad.off + 3, none⟩ f0
    clear hA e0 e1 e2 f0 f1 f2 g0 g1
    go_enter Try.func25, Try.ntmps25
    go_wp2_with fail
    rw [hW0] at hb0 B0 C0 D0 a0 a1 a2 a3 a4 a5 b0 b1 b2 b3 b4 b5 d0 d1 d2 d3 d4 d5
    try rw [hW0]
    clear hW0
    have hS0 : DesS w ad c x y A0 c0 A1 c1 W0.drew := hstep _ _ hB (below_drew1 (Below.refl _ _))
    have hput1 : ∀ W, DesS w ad c x y A0 c0 A1 c1 W → ∀ p q r, DesS w ad c x y A0 c0 A1 c1 (((W.setCell ⟨w.heap.size + 1, 0, none⟩ p).setCell ⟨w.heap.size + 1, 1, none⟩ q).setCell ⟨w.heap.size + 1, 2, none⟩ r) := fun W h p q r => by
      have n0 : w.heap.size ≠ w.heap.size + 1 := by omega
      have n1 : ad.block ≠ w.heap.size + 1 := by omega
      obtain ⟨h0, h1, h2, h3, h4, h5, h6, h7, h8, h9⟩ := h
      exact ⟨cell_away (cell_away (cell_away h0 n0) n0) n0, cell_away (cell_away (cell_away h1 n0) n0) n0, cell_away (cell_away (cell_away h2 n0) n0) n0, cell_away (cell_away (cell_away h3 n1) n1) n1, cell_away (cell_away (cell_away h4 n1) n1) n1, cell_away (cell_away (cell_away h5 n1) n1) n1, cell_away (cell_away (cell_away h6 n1) n1) n1, cell_away (cell_away (cell_away h7 n1) n1) n1, cell_away (cell_away (cell_away h8 n1) n1) n1, ((h9.setCell (by first | (simp; done) | (simp; omega)) _).setCell (by first | (simp; done) | (simp; omega)) _).setCell (by first | (simp; done) | (simp; omega)) _⟩
    have hput2 : ∀ W, DesS w ad c x y A0 c0 A1 c1 W → ∀ p q r, DesS w ad c x y A0 c0 A1 c1 (((W.setCell ⟨w.heap.size + 1 + 1, 0, none⟩ p).setCell ⟨w.heap.size + 1 + 1, 1, none⟩ q).setCell ⟨w.heap.size + 1 + 1, 2, none⟩ r) := fun W h p q r => by
      have n0 : w.heap.size ≠ w.heap.size + 1 + 1 := by omega
      have n1 : ad.block ≠ w.heap.size + 1 + 1 := by omega
      obtain ⟨h0, h1, h2, h3, h4, h5, h6, h7, h8, h9⟩ := h
      exact ⟨cell_away (cell_away (cell_away h0 n0) n0) n0, cell_away (cell_away (cell_away h1 n0) n0) n0, cell_away (cell_away (cell_away h2 n0) n0) n0, cell_away (cell_away (cell_away h3 n1) n1) n1, cell_away (cell_away (cell_away h4 n1) n1) n1, cell_away (cell_away (cell_away h5 n1) n1) n1, cell_away (cell_away (cell_away h6 n1) n1) n1, cell_away (cell_away (cell_away h7 n1) n1) n1, cell_away (cell_away (cell_away h8 n1) n1) n1, ((h9.setCell (by first | (simp; done) | (simp; omega)) _).setCell (by first | (simp; done) | (simp; omega)) _).setCell (by first | (simp; done) | (simp; omega)) _⟩
    go_region_held3 (fun W => DesS w ad c x y A0 c0 A1 c1 W)
      (first | (with_reducible exact hS0) | (with_reducible assumption) | (with_reducible exact hput1 _ (by with_reducible assumption) _ _ _) | (with_reducible exact hput2 _ (by with_reducible assumption) _ _ _) | (with_reducible exact hput2 _ (hput1 _ (by with_reducible assumption) _ _ _) _ _ _) | (with_reducible exact hput1 _ (hput2 _ (by with_reducible assumption) _ _ _) _ _ _))
      (first
        | (go_at_call 27; (with_reducible refine (htb _ (by with_reducible assumption)).mono ?_); rintro e w2 ⟨v2, rfl, hT2, hc2, hN⟩; have D2 := blk_below D1 hc2; have C2 := blk_below C1 hc2; obtain ⟨y0, y1, y2, y3, y4, y5, y6⟩ := box3s C2; obtain ⟨A2, c2, hv2, _⟩ := hT2.reads; subst hv2; have hT1' := hT1.later hc2; obtain ⟨x0, x1, x2, x3, x4, x5, x6⟩ := box3s D2)
        | (go_at_call 27; (with_reducible refine (hta _ (by with_reducible assumption)).mono ?_); rintro e w1 ⟨v1, rfl, hT1, hc1, hN⟩; have hbN := below_step (below_drew1 (Below.refl _ W0)) hc1; have D1 := blk_below D0 hbN; have C1 := blk_below C0 hbN; obtain ⟨A1, c1, hv1, _⟩ := hT1.reads; subst hv1))
    have hb2 := hN.2.2.2.2.2.2.2.2.2
    have z1 := hc1.size
    have z2 := hc2.size
    simp only [World.size_drew] at z1
    go_wp2
    obtain ⟨w3, hw3⟩ : ∃ w3, ((w2.setCell ⟨w.heap.size + 1, 0, none⟩ (.bool x.f0)).setCell ⟨w.heap.size + 1, 1, none⟩ (.string x.f1)).setCell ⟨w.heap.size + 1, 2, none⟩ (.slice A1 x.f2.length c1) = w3 := ⟨_, rfl⟩
    have hk3 : ∀ k, k ≠ w.heap.size + 1 → w3.heap[k]? = w2.heap[k]? := fun k hk => by
      rw [← hw3, Below.heap_setCell _ _ _ k hk, Below.heap_setCell _ _ _ k hk, Below.heap_setCell _ _ _ k hk]
    have hs3 : w3.heap.size = w2.heap.size := by rw [← hw3]; simp
    have C3 : w3.heap[w.heap.size + 1]? = some (.cells #[.bool x.f0, .string x.f1, .slice A1 x.f2.length c1] 25 (0, 0)) := by rw [← hw3]; exact set3 C2
    have D3 : w3.heap[w.heap.size + 1 + 1]? = some (.cells #[.bool false, .string ⟨#[]⟩, .slice none 0 0] 25 (0, 0)) := (hk3 _ (by omega)).trans D2
    have hb3 : Below w.heap.size w w3 := by rw [← hw3]; exact ((hb2.setCell (by simp) _).setCell (by simp) _).setCell (by simp) _
    rw [hw3]
    clear hw3
    obtain ⟨w4, hw4⟩ : ∃ w4, ((w3.setCell ⟨w.heap.size + 1 + 1, 0, none⟩ (.bool y.f0)).setCell ⟨w.heap.size + 1 + 1, 1, none⟩ (.string y.f1)).setCell ⟨w.heap.size + 1 + 1, 2, none⟩ (.slice A2 y.f2.length c2) = w4 := ⟨_, rfl⟩
    have hk4 : ∀ k, k ≠ w.heap.size + 1 + 1 → w4.heap[k]? = w3.heap[k]? := fun k hk => by
      rw [← hw4, Below.heap_setCell _ _ _ k hk, Below.heap_setCell _ _ _ k hk, Below.heap_setCell _ _ _ k hk]
    have D4 : w4.heap[w.heap.size + 1 + 1]? = some (.cells #[.bool y.f0, .string y.f1, .slice A2 y.f2.length c2] 25 (0, 0)) := by rw [← hw4]; exact set3 D3
    have C4 : w4.heap[w.heap.size + 1]? = some (.cells #[.bool x.f0, .string x.f1, .slice A1 x.f2.length c1] 25 (0, 0)) := (hk4 _ (by omega)).trans C3
    have hb4 : Below w.heap.size w w4 := by rw [← hw4]; exact ((hb3.setCell (by simp; omega) _).setCell (by simp; omega) _).setCell (by simp; omega) _
    rw [hw4]
    clear hw4
    obtain ⟨p0, p1, p2, _⟩ := box3s C4
    obtain ⟨q0, q1, q2, _⟩ := box3s D4
    refine bodyPost_ret (v := .tuple #[.agg #[.bool x.f0, .string x.f1, .slice A1 x.f2.length c1], .agg #[.bool y.f0, .string y.f1, .slice A2 y.f2.length c2], .bool true]) (by simp [results, Try.results25, go_sem, p0, p1, p2, q0, q1, q2]) rfl ?_
    have hmv : ∀ {v : Value} {l : List S25}, WT w2 (fun k => w.heap.size + 3 ≤ k) v l → WT w4 (fun k => w.heap.size ≤ k) v l := fun h => (h.step (fun k hk _ => (hk4 k (by omega)).trans (hk3 k (by omega)))).mono (fun k hk => by omega)
    exact ⟨_, _, rfl, hmv (hT1'.mono (fun k hk => by simp at hk; omega)), hmv (hT2.mono (fun k hk => by omega)), hb4⟩
end Go.Proofs.Ytgnklkmifcmlhaa.Q
/- Proved here: what the reference's Great and GreatBinds answer in the end. Conditions: those that each theorem names. -/
namespace Go.Proofs.Ytgnklkmifcmlhaa.Q
open Go.RowKit Go.Shelf Go.Proofs.YtgnklkmifcmlhaaW.PrintWords Go.Proofs.YtgnklkmifcmlhaaW.PrintMore
set_option linter.unusedVariables false
set_option linter.unusedSimpArgs false

/-! ### Great -/
mutual
def cntT : S25 → Int → Nat → Int
  | ⟨_, n, l⟩, left, d => match d with | 0 => 0 | d + 1 => cntL l (left - 1 - (n.size : Int) / 100) d
def cntL : List S25 → Int → Nat → Int
  | [], left, _ => left
  | a :: l, left, d => if left > 0 then cntL l (cntT a left d) d else left
end
mutual
theorem cntT_bd : ∀ (t : S25) (left : Int) (d : Nat), left ≤ 1500 → 0 < left → cntT t left d ≤ 1500 ∧ (0 < cntT t left d → cntT t left d + szT t ≤ left)
  | ⟨v, n, l⟩, left, d, h1, h2 => by
    cases d with
    | zero => simp [cntT]
    | succ d =>
      simp only [cntT, szT]
      have := cntL_bd l (left - 1 - (n.size : Int) / 100) d (by omega)
      omega
theorem cntL_bd : ∀ (l : List S25) (left : Int) (d : Nat), left ≤ 1500 → cntL l left d ≤ 1500 ∧ (0 < cntL l left d → cntL l left d + szL l ≤ left)
  | [], left, d, h1 => by simp [cntL, szL]; omega
  | a :: l, left, d, h1 => by
    simp only [cntL, szL]
    split
    · rename_i h
      have h3 := cntT_bd a left d h1 h
      have h4 := cntL_bd l (cntT a left d) d h3.1
      omega
    · omega
end
mutual
theorem cntT_lo : ∀ (t : S25) (left : Int) (d : Nat), wd t → 0 < left → left ≤ 1500 → -461168601842738790 ≤ cntT t left d
  | ⟨v, n, l⟩, left, d, hf, h1, h2 => by
    cases d with
    | zero => simp [cntT]
    | succ d =>
      simp only [cntT]
      have hn := wd_name hf
      dsimp only at hn
      exact cntL_lo l _ d (fun x hx => wd_mem hf hx) (by omega) (by omega)
theorem cntL_lo : ∀ (l : List S25) (left : Int) (d : Nat), (∀ x, x ∈ l → wd x) → left ≤ 1500 → -461168601842738790 ≤ left → -461168601842738790 ≤ cntL l left d
  | [], left, d, _, _, h => h
  | a :: l, left, d, hf, h1, h => by
    simp only [cntL]
    split
    · rename_i hp
      have h3 := cntT_lo a left d (hf a (List.mem_cons_self ..)) hp h1
      have h4 := (cntT_bd a left d h1 hp).1
      exact cntL_lo l _ d (fun x hx => hf x (List.mem_cons_of_mem _ hx)) h4 h3
    · exact h
end
theorem count_ev (t : S25) : wd t → ∀ (left : Int) (d : Nat), 0 < left → left ≤ 1500 → d ≤ 500 → Ev (fun k => sequentref01_count.f k t.f0 t.f1 t.f2 left (d : Int)) (cntT t left d) := by
  induction t using S_ind with
  | _ t ih =>
    intro hf left d h1 h2 hd
    have hl := wd_len hf
    have hn := wd_name hf
    refine Ev.succ ?_
    simp only [sequentref01_count.f]
    cases d with
    | zero =>
      refine Ev.pos rfl ((Ev.pure _).val ?_)
      cases t; simp [cntT]
    | succ d =>
      refine Ev.neg (by omega) ?_
      rw [w64 (x := left - 1) (by omega) (by omega), w64 (x := (t.f1.size : Int) / 100) (by omega) (by omega), w64 (by omega) (by omega)]
      have hv : cntT t left (d + 1) = cntL t.f2 (left - 1 - (t.f1.size : Int) / 100) d := by cases t; simp [cntT]
      rw [hv]
      have hloop : ∀ (m j : Nat), j + m = t.f2.length → ∀ left : Int, left ≤ 1500 → -461168601842738790 ≤ left → Ev (fun k => sequentref01_count.l0 k left ((d + 1 : Nat) : Int) (j : Int) t.f0 t.f1 t.f2) (cntL (t.f2.drop j) left d) := by
        intro m
        induction m with
        | zero =>
          intro j hj left _ _
          refine Ev.succ ?_
          simp only [sequentref01_count.l0]
          refine Ev.neg (by omega) ((Ev.pure _).val ?_)
          rw [List.drop_of_length_le (by omega)]
          rfl
        | succ m ihm =>
          intro j hj left h3 h4
          have hjl : j < t.f2.length := by omega
          refine Ev.succ ?_
          simp only [sequentref01_count.l0]
          rw [List.drop_eq_getElem_cons hjl, cntL]
          refine Ev.pos (by omega) (Ev.ite (fun e => Ev.pos (by omega) ?_) (fun e => (Ev.pure _).val (by rw [if_neg e])))
          rw [rdT t.f2 j hjl, w64 (x := ((d + 1 : Nat) : Int) - 1) (by omega) (by omega), show ((d + 1 : Nat) : Int) - 1 = (d : Int) by omega, if_pos e]
          have hfx := wd_mem hf (List.getElem_mem hjl)
          refine Ev.bind (ih _ (List.getElem_mem hjl) hfx left d e h3 (by omega)) ?_
          rw [w64s (by omega)]
          exact ihm (j + 1) (by omega) _ (cntT_bd _ left d h3 e).1 (cntT_lo _ left d hfx e h3)
      exact hloop t.f2.length 0 (by omega) _ (by omega) (by omega)
def greatB (t : S25) : Bool := decide (cntT t 1500 500 ≤ 0)
theorem great_ev (t : S25) (hf : wd t) : Ev (fun k => sequentref01_Great.f k t.f0 t.f1 t.f2) (greatB t) := by
  simp only [sequentref01_Great.f]
  exact Ev.bind (count_ev t hf 1500 500 (by omega) (by omega) (by omega)) (Ev.pure _)
theorem greatB_sz {t : S25} (h : greatB t = false) : szT t ≤ 1500 := by
  unfold greatB at h
  have h1 := of_decide_eq_false h
  have h2 := (cntT_bd t 1500 500 (by omega) (by omega)).2 (by omega)
  omega

end Go.Proofs.Ytgnklkmifcmlhaa.Q
/- Proved here: the contract of spoil. Conditions: those that each theorem names. -/
namespace Go.Proofs.Ytgnklkmifcmlhaa.Q
open Go.RowKit Go.Shelf Go.Proofs.YtgnklkmifcmlhaaW.PrintWords Go.Proofs.YtgnklkmifcmlhaaW.PrintMore
set_option linter.unusedVariables false
set_option linter.unusedSimpArgs false
attribute [local go_sem] Oper.semAt_some

/-! ### Stores of strings over strings -/
structure StrStep (ok : Nat → Prop) (w w' : World) : Prop where
  os : w'.os = w.os
  tape : w'.tape = w.tape
  output : w'.output = w.output
  size : w.heap.size ≤ w'.heap.size
  keep : ∀ k, k < w.heap.size → ¬ ok k → w'.heap[k]? = w.heap[k]?
  str : ∀ (k : Nat) (cur : Array Value) (t : TypeId) (fr : Nat × Nat), w.heap[k]? = some (.cells cur t fr) → ∃ cur' : Array Value, w'.heap[k]? = some (.cells cur' t fr) ∧ cur'.size = cur.size ∧ ∀ i : Nat, cur'[i]? = cur[i]? ∨ ((∃ s, cur[i]? = some (Value.string s)) ∧ ∃ s', cur'[i]? = some (Value.string s'))
theorem StrStep.refl (ok : Nat → Prop) (w : World) : StrStep ok w w := ⟨rfl, rfl, rfl, Nat.le_refl _, fun _ _ _ => rfl, fun k cur t fr h => ⟨cur, h, rfl, fun i => .inl rfl⟩⟩
theorem StrStep.trans {ok : Nat → Prop} {a b c : World} (h : StrStep ok a b) (k : StrStep ok b c) : StrStep ok a c :=
  ⟨k.os.trans h.os, k.tape.trans h.tape, k.output.trans h.output, Nat.le_trans h.size k.size, fun i hi ho => (k.keep i (Nat.lt_of_lt_of_le hi h.size) ho).trans (h.keep i hi ho), fun i cur t fr hc => by
    obtain ⟨cur1, h1, z1, e1⟩ := h.str i cur t fr hc
    obtain ⟨cur2, h2, z2, e2⟩ := k.str i cur1 t fr h1
    refine ⟨cur2, h2, z2.trans z1, fun j => ?_⟩
    rcases e1 j with e1 | ⟨s1, s1'⟩ <;> rcases e2 j with e2 | ⟨s2, s2'⟩
    · exact .inl (e2.trans e1)
    · rw [e1] at s2; exact .inr ⟨s2, s2'⟩
    · rw [← e2] at s1'; exact .inr ⟨s1, s1'⟩
    · exact .inr ⟨s1, s2'⟩⟩
theorem StrStep.mono {ok ok' : Nat → Prop} {a b : World} (h : StrStep ok a b) (hm : ∀ k, ok k → ok' k) : StrStep ok' a b := ⟨h.os, h.tape, h.output, h.size, fun k hk ho => h.keep k hk (fun h2 => ho (hm k h2)), h.str⟩
theorem StrStep.of_below {ok : Nat → Prop} {a b : World} (h : Below a.heap.size a b) : StrStep ok a b :=
  ⟨h.os, h.tape, h.output, h.size, fun k hk _ => h.block k hk, fun k cur t fr hc => ⟨cur, (h.block k (blk_lt hc)).trans hc, rfl, fun i => .inl rfl⟩⟩
theorem StrStep.below {ok : Nat → Prop} {a b : World} {B : Nat} (h : StrStep ok a b) (hB : B ≤ a.heap.size) (ho : ∀ k, ok k → B ≤ k) : Below B a b :=
  ⟨h.os, h.tape, h.output, h.size, fun k hk => h.keep k (by omega) (fun h2 => by have := ho k h2; omega)⟩
theorem StrStep.set {ok : Nat → Prop} {w : World} {g i : Nat} {cur : Array Value} {t : TypeId} {s s' : ByteArray} (hg : w.heap[g]? = some (.cells cur t (0, 0))) (ho : ok g) (hi : cur[i]? = some (.string s)) : StrStep ok w (w.setCell ⟨g, i, none⟩ (.string s')) := by
  refine ⟨rfl, rfl, rfl, by simp [World.setCell], fun k hk hn => Below.heap_setCell _ _ _ _ (by rintro rfl; exact hn ho), fun k c t' fr hc => ?_⟩
  by_cases hk : k = g
  · subst hk
    rw [hg] at hc
    obtain ⟨rfl, rfl, rfl⟩ : cur = c ∧ t = t' ∧ (0, 0) = fr := by injection hc with hc; injection hc with a b c; exact ⟨a, b, c⟩
    refine ⟨_, blk_put hg i (.string s') rfl, by simp, fun j => ?_⟩
    by_cases hj : i = j
    · subst hj
      exact .inr ⟨⟨s, hi⟩, s', Array.getElem?_setIfInBounds_self_of_lt (Array.getElem?_eq_some_iff.1 hi).1⟩
    · exact .inl (Array.getElem?_setIfInBounds_ne hj)
  · exact ⟨c, (Below.heap_setCell _ _ _ _ hk).trans hc, rfl, fun j => .inl rfl⟩

theorem StrStep.slice_cell {ok : Nat → Prop} {a b : World} {k i n c : Nat} {cur : Array Value} {t : TypeId} {A : Option Addr} (h : StrStep ok a b) (hc : a.heap[k]? = some (.cells cur t (0, 0))) (hi : cur[i]? = some (.slice A n c)) : b.cell? ⟨k, i, none⟩ = some (.slice A n c) := by
  obtain ⟨cur', h1, _, he⟩ := h.str k cur t _ hc
  rw [blk_cell h1 i]
  rcases he i with e | ⟨⟨s, e⟩, _⟩
  · exact e.trans hi
  · rw [hi] at e; cases e
theorem StrStep.str_cell {ok : Nat → Prop} {a b : World} {k i : Nat} {cur : Array Value} {t : TypeId} {s : ByteArray} (h : StrStep ok a b) (hc : a.heap[k]? = some (.cells cur t (0, 0))) (hi : cur[i]? = some (.string s)) : ∃ (cur' : Array Value) (s' : ByteArray), b.heap[k]? = some (.cells cur' t (0, 0)) ∧ cur'[i]? = some (.string s') := by
  obtain ⟨cur', h1, _, he⟩ := h.str k cur t _ hc
  rcases he i with e | ⟨_, s', e⟩
  · exact ⟨cur', s, h1, e.trans hi⟩
  · exact ⟨cur', s', h1, e⟩
/-- A tree that may be written, whatever its names. -/
inductive WS (w : World) (ok : Nat → Prop) : Value → List S25 → Prop where
  | nil (A : Option Addr) (c : Nat) : WS w ok (.slice A 0 c) []
  | row (g cap : Nat) (cur : Array Value) (l : List S25) (vs : Nat → Value) (hn : 0 < l.length) (hg : ok g) (hb : w.heap[g]? = some (.cells cur 25 (0, 0)))
      (hl : l.length ≤ cap) (hm : cap ≤ 9223372036854775807) (hz : cur.size = cap * 3)
      (h0 : ∀ j, j < l.length → ∃ b, cur[j * 3]? = some (.bool b)) (h1 : ∀ j, j < l.length → ∃ s, cur[j * 3 + 1]? = some (.string s))
      (h2 : ∀ j, j < l.length → ∃ A c, cur[j * 3 + 2]? = some (vs j) ∧ vs j = .slice A (rd_T25 l (j : Int)).f2.length c) (hr : ∀ j, j < l.length → WS w ok (vs j) (rd_T25 l (j : Int)).f2) : WS w ok (.slice (some ⟨g, 0, none⟩) l.length cap) l
theorem WS_of_WT {w : World} {ok : Nat → Prop} {v : Value} {l : List S25} (h : WT w ok v l) : WS w ok v l := by
  induction h with
  | nil A c => exact .nil A c
  | row g cap cur l vs hn hg hb hl hm hz h0 h1 h2 hr ih => exact .row g cap cur l vs hn hg hb hl hm hz (fun j hj => ⟨_, h0 j hj⟩) (fun j hj => ⟨_, h1 j hj⟩) (fun j hj => by obtain ⟨A, c, he, _⟩ := (hr j hj).reads; exact ⟨A, c, h2 j hj, he⟩) ih
theorem WS.step {w w1 : World} {ok ok' : Nat → Prop} {v : Value} {l : List S25} (h : WS w ok v l) (hs : StrStep ok' w w1) : WS w1 ok v l := by
  induction h with
  | nil A c => exact .nil A c
  | row g cap cur l vs hn hg hb hl hm hz h0 h1 h2 hr ih =>
    obtain ⟨cur', hb', hz', he⟩ := hs.str g cur _ _ hb
    refine .row g cap cur' l vs hn hg hb' hl hm (hz'.trans hz) (fun j hj => ?_) (fun j hj => ?_) (fun j hj => ?_) ih
    · obtain ⟨b, hq⟩ := h0 j hj
      rcases he (j * 3) with e | ⟨⟨s, e⟩, _⟩
      · exact ⟨b, e.trans hq⟩
      · rw [hq] at e; cases e
    · obtain ⟨s, hq⟩ := h1 j hj
      rcases he (j * 3 + 1) with e | ⟨_, s', e⟩
      · exact ⟨s, e.trans hq⟩
      · exact ⟨s', e⟩
    · obtain ⟨A, c, hq, hv⟩ := h2 j hj
      rcases he (j * 3 + 2) with e | ⟨⟨s, e⟩, _⟩
      · exact ⟨A, c, e.trans hq, hv⟩
      · rw [hq, hv] at e; cases e
theorem WS.bound {w : World} {ok : Nat → Prop} {v : Value} {l : List S25} (h : WS w ok v l) : WS w (fun k => ok k ∧ k < w.heap.size) v l := by
  induction h with
  | nil A c => exact .nil A c
  | row g cap cur l vs hn hg hb hl hm hz h0 h1 h2 hr ih => exact .row g cap cur l vs hn ⟨hg, blk_lt hb⟩ hb hl hm hz h0 h1 h2 ih
theorem WS.inv {w : World} {ok : Nat → Prop} {v : Value} {l : List S25} (h : WS w ok v l) : l = [] ∨ ∃ (g cap : Nat) (cur : Array Value) (vs : Nat → Value), v = .slice (some ⟨g, 0, none⟩) l.length cap ∧ ok g ∧ w.heap[g]? = some (.cells cur 25 (0, 0)) ∧ l.length ≤ cap ∧ cap ≤ 9223372036854775807 ∧
    (∀ j, j < l.length → ∃ b, cur[j * 3]? = some (.bool b)) ∧ (∀ j, j < l.length → ∃ s, cur[j * 3 + 1]? = some (.string s)) ∧ (∀ j, j < l.length → ∃ A c, cur[j * 3 + 2]? = some (vs j) ∧ vs j = .slice A (rd_T25 l (j : Int)).f2.length c) ∧ (∀ j, j < l.length → WS w ok (vs j) (rd_T25 l (j : Int)).f2) := by
  cases h with
  | nil A c => exact .inl rfl
  | row g cap cur l vs hn hg hb hl hm hz h0 h1 h2 hr => exact .inr ⟨g, cap, cur, vs, rfl, hg, hb, hl, hm, h0, h1, h2, hr⟩
theorem WS.slice {w : World} {ok : Nat → Prop} {v : Value} {l : List S25} (h : WS w ok v l) : ∃ A c, v = .slice A l.length c := by
  cases h with
  | nil A c => exact ⟨A, c, rfl⟩
  | row g cap cur l vs => exact ⟨_, _, rfl⟩

set_option maxHeartbeats 2000000 in
set_option maxRecDepth 100000 in
theorem spoil_calls : ∀ (n : Nat) (l : List S25) (b : Bool) (s : ByteArray) (v : Value) (ok : Nat → Prop) (w : World), szL l ≤ n → WS w ok v l →
    Calls Try.prog 19 #[.agg #[.bool b, .string s, v]] w fun e w' => e = .returned (.tuple #[]) ∧ StrStep ok w w'
  | n, l, b, s, v, ok, w, hn, hw => by
    have ih := fun (kk : Nat) (hk : kk < l.length) b' s' v' ok' W hW => spoil_calls (n - 1) (rd_T25 l (kk : Int)).f2 b' s' v' ok' W (by
      have := szL_mem l _ (getD_mem l z25 kk hk)
      have h2 := szT_eq' (l.getD kk z25)
      show szL (l.getD kk z25).f2 ≤ n - 1
      omega) hW
    have IH := Aside0.mk ih
    obtain ⟨A, c, rfl⟩ := hw.slice
    have hw2 := hw.bound.step (ok' := ok) (StrStep.of_below (below_one (.cells #[.bool b, .string s, .slice A l.length c] 25)))
    have HW := Aside0.mk hw2
    have hll := szL_len l
    have hmax : l.length ≤ 9223372036854775807 := by
      rcases hw.inv with h | ⟨g, cap, cur, vs, _, _, _, hl, hm, _⟩
      · rw [h]; simp
      · omega
    have hbx := blk_new w (.cells #[.bool b, .string s, .slice A l.length c] 25)
    clear hw hw2 ih hn
    go_enter Try.func19, Try.ntmps19
    go_wp2_with fail
    obtain ⟨W0, hW0⟩ : ∃ W0, w.alloc (.cells #[.bool b, .string s, .slice A l.length c] 25) = W0 := ⟨_, rfl⟩
    have hb0 : Below w.heap.size w W0 := by rw [← hW0]; exact below_one _
    rw [hW0] at hbx HW ⊢
    clear hW0
    go_loopg [2] l.length (fun gg v2 wr => ∃ kk : Nat, kk ≤ l.length ∧ gg + kk = l.length ∧ v2 = .int .i64 (kk : Int) ∧ Aside0 (StrStep (fun k => ok k ∧ k < w.heap.size) W0 wr))
    case atStart => exact ⟨0, by omega, by omega, rfl, ⟨StrStep.refl _ _⟩⟩
    case round =>
      obtain ⟨kk, hk1, hk2, rfl, hS⟩ := hrel
      have hbc : wr.cell? ⟨w.heap.size, 2, none⟩ = some (.slice A l.length c) := hS.out.slice_cell hbx rfl
      by_cases hkk : kk < l.length
      · have q0 : decide (kk < l.length) = true := decide_eq_true hkk
        have hw := HW.out.step hS.out
        rcases hw.inv with h | ⟨g, cap, cur, vs, hv0, hg, hb, hl, hm, h0, h1, h2, hr⟩
        · rw [h] at hkk; simp at hkk
        · injection hv0 with hA _ hC
          subst hA hC
          obtain ⟨b', hb'⟩ := h0 kk hkk
          obtain ⟨s', hs'⟩ := h1 kk hkk
          obtain ⟨A2, c2, hv', hve⟩ := h2 kk hkk
          have hc := IH.out kk hkk b' s' _ _ wr (hr kk hkk)
          rw [hve] at hv' hc
          have x0 := (blk_cell hb (kk * 3)).trans hb'
          have x1 := (blk_cell hb (kk * 3 + 1)).trans hs'
          have x2 := (blk_cell hb (kk * 3 + 2)).trans hv'
          have HH := Aside0.mk hb
          have HS' := Lib.hid hs'
          clear h0 h1 h2 hr hb hb' hs' hv' hve hw
          go_wp2_with (go_at_call 19; refine hc.mono ?_; rintro e w1 ⟨rfl, hS1⟩; have hbc1 : w1.cell? ⟨w.heap.size, 2, none⟩ = some (.slice (some ⟨g, 0, none⟩) l.length c) := (hS.out.trans hS1).slice_cell hbx rfl; obtain ⟨cg, s2, hcg, hs2⟩ := hS1.str_cell HH.out HS'.out; have z1 := (blk_cell hcg (kk * 3 + 1)).trans hs2; have z2 := blk_frozen hcg (kk * 3 + 1))
          go_roundg (l.length - kk - 1)
          case measure => omega
          case rel => exact ⟨kk + 1, by omega, by omega, by simp, ⟨(hS.out.trans hS1).trans (StrStep.set hcg hg hs2)⟩⟩
      · have q0 : decide (kk < l.length) = false := decide_eq_false hkk
        go_wp2
        refine bodyPost_end (v := .tuple #[]) (by simp [results, Try.results19, go_sem]) rfl ?_
        exact ⟨rfl, (StrStep.of_below hb0).trans (hS.out.mono (fun k hk => hk.1))⟩
  termination_by n => n
  decreasing_by
    have := szL_mem l _ (getD_mem l z25 kk hk)
    have := szT_pos (l.getD kk z25)
    omega
end Go.Proofs.Ytgnklkmifcmlhaa.Q
