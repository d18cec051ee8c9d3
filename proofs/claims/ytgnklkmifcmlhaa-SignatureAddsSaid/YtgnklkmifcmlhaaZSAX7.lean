/- Proved here: parts of the proof of a given statement (HRowSignatureAdds): contracts of the functions that it reaches, what they answer, and in the last text the statement itself. Conditions: those that each theorem names. -/
import Derived.Test.YtgnklkmifcmlhaaZSAX4
import Derived.Test.YtgnklkmifcmlhaaZSAX6
import Derived.Test.YtgnklkmifcmlhaaZSAX3
import Derived.Deep.RegionHeld3
import Derived.Maps.AppendAt
import Derived.Deep.AppendLies
/- Proved here: the contract of types.Compare. Conditions: those that each theorem names. -/
namespace Go.Proofs.Ytgnklkmifcmlhaa.Q
open Go.RowKit Go.Proofs.YtgnklkmifcmlhaaW.PrintWords Go.Proofs.YtgnklkmifcmlhaaW.PrintMore
set_option linter.unusedVariables false
set_option linter.unusedSimpArgs false

/-! ### The order of types -/
def cmpI (a b : Int) : Int := if a < b then -1 else if b < a then 1 else 0
def or3 (a b c : Int) : Int := if a ≠ 0 then a else if b ≠ 0 then b else c
def rankT (b : Bool) : Int := if b = true then 0 else 1
def headC (a b : S25) : Int := or3 (cmpI (rankT a.f0) (rankT b.f0)) (Lib.compareBytes a.f1.data.toList b.f1.data.toList) (cmpI (a.f2.length : Int) (b.f2.length : Int))
mutual
def cmpT : S25 → S25 → Int
  | ⟨a0, a1, a2⟩, ⟨b0, b1, b2⟩ => if headC ⟨a0, a1, a2⟩ ⟨b0, b1, b2⟩ ≠ 0 then headC ⟨a0, a1, a2⟩ ⟨b0, b1, b2⟩ else cmpL a2 b2
def cmpL : List S25 → List S25 → Int
  | [], [] => 0
  | [], _ :: _ => -1
  | _ :: _, [] => 1
  | a :: l, b :: m => if cmpT a b ≠ 0 then cmpT a b else cmpL l m
end
mutual
def szT : S25 → Nat
  | ⟨_, _, l⟩ => szL l + 1
def szL : List S25 → Nat
  | [] => 0
  | a :: l => szT a + szL l
end
theorem szL_mem : ∀ (l : List S25) (x : S25), x ∈ l → szT x ≤ szL l
  | a :: l, x, h => by
    simp only [szL]
    rcases List.mem_cons.1 h with rfl | h
    · omega
    · have := szL_mem l x h; omega
theorem szT_pos (x : S25) : 0 < szT x := by cases x; simp [szT]
theorem cmpT_eq (a b : S25) : cmpT a b = if headC a b ≠ 0 then headC a b else cmpL a.f2 b.f2 := by cases a; cases b; simp only [cmpT]

/-! ### CompareFunc, Compare -/
theorem szT_eq (t : S25) : szT t = szL t.f2 + 1 := by cases t; simp [szT]
end Go.Proofs.Ytgnklkmifcmlhaa.Q
/- Proved here: trees of types in memory that may be written. Conditions: those that each theorem names. -/
namespace Go.Proofs.Ytgnklkmifcmlhaa.Q
open Go.RowKit Go.Proofs.YtgnklkmifcmlhaaW.PrintWords Go.Proofs.YtgnklkmifcmlhaaW.PrintMore
set_option linter.unusedVariables false
set_option linter.unusedSimpArgs false

theorem szT_eq' (t : S25) : szT t = szL t.f2 + 1 := by cases t; simp [szT]
theorem szL_len : ∀ l : List S25, l.length ≤ szL l
  | [] => Nat.zero_le _
  | a :: l => by
    have h1 := szL_len l
    have h2 := szT_pos a
    simp only [szL, List.length_cons]
    omega
theorem box3s {w : World} {g : Nat} {t : TypeId} {a b c : Value} (h : w.heap[g]? = some (.cells #[a, b, c] t (0, 0))) :
    w.cell? ⟨g, 0, none⟩ = some a ∧ w.cell? ⟨g, 1, none⟩ = some b ∧ w.cell? ⟨g, 2, none⟩ = some c ∧ w.frozen? ⟨g, 0, none⟩ = false ∧ w.frozen? ⟨g, 1, none⟩ = false ∧ w.frozen? ⟨g, 2, none⟩ = false ∧ g < w.heap.size :=
  ⟨(box3 h).1, (box3 h).2.1, (box3 h).2.2.1, (box3 h).2.2.2.1, (box3 h).2.2.2.2.1, (box3 h).2.2.2.2.2, blk_lt h⟩
/-! ### Trees of the call's own, which may be written: each row lies in a block of its own kind, not frozen -/
inductive WT (w : World) (ok : Nat → Prop) : Value → List S25 → Prop where
  | nil (A : Option Addr) (c : Nat) : WT w ok (.slice A 0 c) []
  | row (g cap : Nat) (cur : Array Value) (l : List S25) (vs : Nat → Value) (hn : 0 < l.length) (hg : ok g) (hb : w.heap[g]? = some (.cells cur 25 (0, 0)))
      (hl : l.length ≤ cap) (hm : cap ≤ 9223372036854775807) (hz : cur.size = cap * 3)
      (h0 : ∀ j, j < l.length → cur[j * 3]? = some (.bool (rd_T25 l (j : Int)).f0)) (h1 : ∀ j, j < l.length → cur[j * 3 + 1]? = some (.string (rd_T25 l (j : Int)).f1))
      (h2 : ∀ j, j < l.length → cur[j * 3 + 2]? = some (vs j)) (hr : ∀ j, j < l.length → WT w ok (vs j) (rd_T25 l (j : Int)).f2) : WT w ok (.slice (some ⟨g, 0, none⟩) l.length cap) l

theorem WT.mono {w : World} {ok ok' : Nat → Prop} {v : Value} {l : List S25} (h : WT w ok v l) (hok : ∀ k, ok k → ok' k) : WT w ok' v l := by
  induction h with
  | nil A c => exact .nil A c
  | row g cap cur l vs hn hg hb hl hm hz h0 h1 h2 hr ih => exact .row g cap cur l vs hn (hok g hg) hb hl hm hz h0 h1 h2 (fun j hj => ih j hj)
theorem WT.step {w w1 : World} {ok : Nat → Prop} {v : Value} {l : List S25} (h : WT w ok v l) (hm : ∀ k, ok k → k < w.heap.size → w1.heap[k]? = w.heap[k]?) : WT w1 ok v l := by
  induction h with
  | nil A c => exact .nil A c
  | row g cap cur l vs hn hg hb hl hm' hz h0 h1 h2 hr ih => exact .row g cap cur l vs hn hg ((hm g hg (blk_lt hb)).trans hb) hl hm' hz h0 h1 h2 (fun j hj => ih j hj)
theorem WT.later {w w1 : World} {ok : Nat → Prop} {v : Value} {l : List S25} (h : WT w ok v l) (hb : Below w.heap.size w w1) : WT w1 ok v l := h.step (fun k _ hk => hb.block k hk)
theorem WT.far {w : World} {ok : Nat → Prop} {v : Value} {l : List S25} (h : WT w ok v l) (p : Addr) (u : Value) (hp : ∀ k, ok k → k ≠ p.block) : WT (w.setCell p u) ok v l := h.step (fun k hk _ => Below.heap_setCell w p u k (hp k hk))
theorem rd_get (l : List S25) (j : Nat) (p : S25) (h : l[j]? = some p) : j < l.length ∧ rd_T25 l (j : Int) = p := by
  obtain ⟨hj, hp⟩ := List.getElem?_eq_some_iff.1 h
  exact ⟨hj, by unfold rd_T25; simp only [Int.toNat_natCast]; rw [List.getD_eq_getElem?_getD, h]; rfl⟩
theorem add_zero_spot (g n : Nat) : Addr.add ⟨g, 0, none⟩ n = ⟨g, n, none⟩ := by
  unfold Addr.add
  split
  · rename_i h; rw [h]
  · simp
theorem WT.reads {w : World} {ok : Nat → Prop} {v : Value} {l : List S25} (h : WT w ok v l) : ∃ A c, v = .slice A l.length c ∧ l.length ≤ c ∧ k25.C w A l.length l := by
  induction h with
  | nil A c => exact ⟨A, c, rfl, Nat.zero_le _, rfl, by simp, fun h => absurd h (by simp)⟩
  | row g cap cur l vs hn hg hb hl hm hz h0 h1 h2 hr ih =>
    refine ⟨_, _, rfl, hl, rfl, by omega, fun _ => ⟨_, rfl, fun j p hj => ?_⟩⟩
    obtain ⟨hjl, hp⟩ := rd_get l j p hj
    obtain ⟨A, c, hv, hlc, hC⟩ := ih j hjl
    have g0 := h0 j hjl
    have g1 := h1 j hjl
    have g2 := h2 j hjl
    rw [hp] at g0 g1 hv hlc hC
    rw [hv] at g2
    refine ⟨[.bool p.f0, .string p.f1, .slice A p.f2.length c], rfl, k25_mk w p hlc hC, fun i u hu => ?_⟩
    · show w.cell? (Addr.add ⟨g, 0, none⟩ (j * 3 + i)) = some u
      rw [add_zero_spot, blk_cell hb]
      match i, hu with
      | 0, hu => exact g0.trans hu
      | 1, hu => exact g1.trans hu
      | 2, hu => exact g2.trans hu
      | i + 3, hu => simp at hu
theorem WT.V {w : World} {ok : Nat → Prop} {v : Value} {l : List S25} (h : WT w ok v l) (base : Nat) : Kd.V k25 25 w base ok v l := by
  obtain ⟨A, c, rfl, hl, hC⟩ := h.reads
  refine ⟨A, c, rfl, hl, fun W' hW => ?_⟩
  obtain ⟨A', c', he, _, hC'⟩ := (h.step (w1 := W') hW).reads
  injection he with ha _ _
  rw [ha]
  exact hC'
/-! ### A row of such trees under construction (append) -/
end Go.Proofs.Ytgnklkmifcmlhaa.Q
/- Proved here: the contract of types.Twin. Conditions: those that each theorem names. -/
namespace Go.Proofs.Ytgnklkmifcmlhaa.Q
open Go.RowKit Go.Shelf Go.Proofs.YtgnklkmifcmlhaaW.PrintWords Go.Proofs.YtgnklkmifcmlhaaW.PrintMore
set_option linter.unusedVariables false
set_option linter.unusedSimpArgs false
attribute [local go_sem] Oper.semAt_some

theorem run_mkT (W : World) (n : Nat) (hn : n ≤ 5864062014805) : (Instr.makeSlice 23 (.int .i64 (n : Int)) (.int .i64 (n : Int))).run Try.prog W = .ok (.slice (some ⟨W.heap.size, 0, none⟩) n n) (W.alloc (.cells (madeCells #[.bool false, .string ⟨#[]⟩, .slice none 0 0] (n * 3)) 25)) := by
  obtain ⟨i0, hi, hz0, hz1, hz2⟩ := info_parts info25
  have h := run_make (P := Try.prog) W 23 25 i0 _ Try.underlying23 hi hz0 .i64 .i64 (n : Int) (n : Int) (by omega) (by omega) (by rw [hz2]; omega) (by omega)
  rw [hz1] at h
  exact h

/-- What the loop of Twin has built. -/
structure TwinAt (w : World) (t : S25) (kk : Nat) (W : World) : Prop where
  b1 : W.heap[w.heap.size]? = some (.cells #[.bool t.f0, .string t.f1, .slice (some ⟨w.heap.size + 2, 0, none⟩) t.f2.length t.f2.length] 25 (0, 0))
  b2 : W.heap[w.heap.size + 1]? = some (.cells #[.bool false, .string ⟨#[]⟩, .slice none 0 0] 25 (0, 0))
  b3 : ∃ (cur : Array Value) (vs : Nat → Value), W.heap[w.heap.size + 2]? = some (.cells cur 25 (0, 0)) ∧ cur.size = t.f2.length * 3 ∧
    ∀ j, j < kk → cur[j * 3]? = some (.bool (rd_T25 t.f2 (j : Int)).f0) ∧ cur[j * 3 + 1]? = some (.string (rd_T25 t.f2 (j : Int)).f1) ∧ cur[j * 3 + 2]? = some (vs j) ∧ WT W (fun k => w.heap.size + 3 ≤ k) (vs j) (rd_T25 t.f2 (j : Int)).f2
  hb : Below w.heap.size w W

/-- The cells that the statement of the loop loads. -/
abbrev TwinS (w wr : World) (x : S25) (A2 : Option Addr) (c2 : Nat) (u : Value) (W : World) : Prop :=
  W.cell? ⟨wr.heap.size, 0, none⟩ = some (.bool x.f0) ∧ W.cell? ⟨wr.heap.size, 1, none⟩ = some (.string x.f1) ∧ W.cell? ⟨wr.heap.size, 2, none⟩ = some (.slice A2 x.f2.length c2) ∧ W.cell? ⟨w.heap.size, 2, none⟩ = some u ∧ Below w.heap.size w W
theorem TwinS.step {w wr W W' : World} {x : S25} {A2 : Option Addr} {c2 : Nat} {u : Value} (h : TwinS w wr x A2 c2 u W) (hb : Below W.heap.size W W') : TwinS w wr x A2 c2 u W' :=
  ⟨pw_cell_below hb h.1, pw_cell_below hb h.2.1, pw_cell_below hb h.2.2.1, pw_cell_below hb h.2.2.2.1, below_step h.2.2.2.2 hb⟩
theorem cell_away {W : World} {p q : Addr} {u v : Value} (h : W.cell? p = some v) (hne : p.block ≠ q.block) : (W.setCell q u).cell? p = some v := by
  unfold World.cell? at h ⊢
  rw [Below.heap_setCell W q u p.block hne]
  exact h
theorem TwinS.put {w wr W : World} {x : S25} {A2 : Option Addr} {c2 : Nat} {u : Value} (hlt : w.heap.size + 2 < wr.heap.size) (h : TwinS w wr x A2 c2 u W) (i j k : Nat) (a b c : Value) :
    TwinS w wr x A2 c2 u (((W.setCell ⟨w.heap.size + 2, i, none⟩ a).setCell ⟨w.heap.size + 2, j, none⟩ b).setCell ⟨w.heap.size + 2, k, none⟩ c) := by
  have n1 : wr.heap.size ≠ w.heap.size + 2 := by omega
  have n2 : w.heap.size ≠ w.heap.size + 2 := by omega
  exact ⟨cell_away (cell_away (cell_away h.1 n1) n1) n1, cell_away (cell_away (cell_away h.2.1 n1) n1) n1, cell_away (cell_away (cell_away h.2.2.1 n1) n1) n1, cell_away (cell_away (cell_away h.2.2.2.1 n2) n2) n2, ((h.2.2.2.2.setCell (by simp) _).setCell (by simp) _).setCell (by simp) _⟩
theorem TwinAt.next {w wr w1 : World} {t x : S25} {kk : Nat} {cur : Array Value} {vs : Nat → Value} {v : Value} (hX : rd_T25 t.f2 (kk : Int) = x)
    (b1 : wr.heap[w.heap.size]? = some (.cells #[.bool t.f0, .string t.f1, .slice (some ⟨w.heap.size + 2, 0, none⟩) t.f2.length t.f2.length] 25 (0, 0)))
    (b2 : wr.heap[w.heap.size + 1]? = some (.cells #[.bool false, .string ⟨#[]⟩, .slice none 0 0] 25 (0, 0)))
    (b3 : wr.heap[w.heap.size + 2]? = some (.cells cur 25 (0, 0))) (hz : cur.size = t.f2.length * 3)
    (hel : ∀ j, j < kk → cur[j * 3]? = some (.bool (rd_T25 t.f2 (j : Int)).f0) ∧ cur[j * 3 + 1]? = some (.string (rd_T25 t.f2 (j : Int)).f1) ∧ cur[j * 3 + 2]? = some (vs j) ∧ WT wr (fun k => w.heap.size + 3 ≤ k) (vs j) (rd_T25 t.f2 (j : Int)).f2)
    (hb : Below w.heap.size w wr) (hkk : kk < t.f2.length) (hWT : WT w1 (fun k => wr.heap.size ≤ k) v x.f2) (h1 : Below wr.heap.size wr w1) :
    TwinAt w t (kk + 1) (((w1.setCell ⟨w.heap.size + 2, kk * 3, none⟩ (.bool x.f0)).setCell ⟨w.heap.size + 2, kk * 3 + 1, none⟩ (.string x.f1)).setCell ⟨w.heap.size + 2, kk * 3 + 2, none⟩ v) := by
  have hs := blk_lt b3
  have W3 := blk_below b3 h1
  have P := blk_put (blk_put (blk_put W3 (kk * 3) (.bool x.f0) rfl) (kk * 3 + 1) (.string x.f1) rfl) (kk * 3 + 2) v rfl
  refine ⟨blk_far (blk_far (blk_far (blk_below b1 h1) (by simp) _) (by simp) _) (by simp) _, blk_far (blk_far (blk_far (blk_below b2 h1) (by simp) _) (by simp) _) (by simp) _,
    ⟨_, fun j => if j = kk then v else vs j, P, by simp [hz], fun j hj => ?_⟩, (((below_step hb h1).setCell (by simp) _).setCell (by simp) _).setCell (by simp) _⟩
  by_cases hjk : j = kk
  · subst hjk
    simp only [if_true]
    rw [hX]
    refine ⟨?_, ?_, ?_, ?_⟩
    · rw [Array.getElem?_setIfInBounds_ne (by omega), Array.getElem?_setIfInBounds_ne (by omega), Array.getElem?_setIfInBounds_self_of_lt (by omega)]
    · rw [Array.getElem?_setIfInBounds_ne (by omega), Array.getElem?_setIfInBounds_self_of_lt (by simp; omega)]
    · rw [Array.getElem?_setIfInBounds_self_of_lt (by simp; omega)]
    · exact (((hWT.far _ _ (fun k hk => by show k ≠ w.heap.size + 2; omega)).far _ _ (fun k hk => by show k ≠ w.heap.size + 2; omega)).far _ _ (fun k hk => by show k ≠ w.heap.size + 2; omega)).mono (fun k hk => by omega)
  · simp only [if_neg hjk]
    obtain ⟨q0, q1, q2, q3⟩ := hel j (by omega)
    refine ⟨?_, ?_, ?_, ?_⟩
    · rw [Array.getElem?_setIfInBounds_ne (by omega), Array.getElem?_setIfInBounds_ne (by omega), Array.getElem?_setIfInBounds_ne (by omega)]
      exact q0
    · rw [Array.getElem?_setIfInBounds_ne (by omega), Array.getElem?_setIfInBounds_ne (by omega), Array.getElem?_setIfInBounds_ne (by omega)]
      exact q1
    · rw [Array.getElem?_setIfInBounds_ne (by omega), Array.getElem?_setIfInBounds_ne (by omega), Array.getElem?_setIfInBounds_ne (by omega)]
      exact q2
    · exact ((((q3.later h1).far _ _ (fun k hk => by show k ≠ w.heap.size + 2; omega)).far _ _ (fun k hk => by show k ≠ w.heap.size + 2; omega)).far _ _ (fun k hk => by show k ≠ w.heap.size + 2; omega))

set_option maxHeartbeats 2000000 in
set_option maxRecDepth 100000 in
theorem twin_calls : ∀ (n : Nat) (t : S25) (A : Option Addr) (c : Nat) (w : World), szT t ≤ n → szT t ≤ 5864062014805 → k25.C w A t.f2.length t.f2 → t.f2.length ≤ c →
    Calls Try.prog 27 #[.agg #[.bool t.f0, .string t.f1, .slice A t.f2.length c]] w fun e w' => ∃ v, e = .returned (.agg #[.bool t.f0, .string t.f1, v]) ∧ WT w' (fun k => w.heap.size ≤ k) v t.f2 ∧ Below w.heap.size w w'
  | 0, t, A, c, w, h, _, _, _ => by have := szT_pos t; omega
  | n + 1, t, A, c, w, hn, hs, hA, hc => by
    have ih := fun (kk : Nat) (hk : kk < t.f2.length) A' c' W hC hc' => twin_calls n (rd_T25 t.f2 (kk : Int)) A' c' W (by
      have := szL_mem t.f2 _ (getD_mem t.f2 z25 kk hk)
      have h2 : szT t = szL t.f2 + 1 := by cases t; simp [szT]
      show szT (t.f2.getD kk z25) ≤ n
      omega) (by
      have := szL_mem t.f2 _ (getD_mem t.f2 z25 kk hk)
      have h2 : szT t = szL t.f2 + 1 := by cases t; simp [szT]
      show szT (t.f2.getD kk z25) ≤ 5864062014805
      omega) hC hc'
    have hlen : t.f2.length ≤ 5864062014805 := by
      have h2 : szT t = szL t.f2 + 1 := by cases t; simp [szT]
      have h3 := szL_len t.f2
      omega
    have HA := Aside0.mk hA
    have HC := Aside0.mk hc
    have IH := Aside0.mk ih
    clear hA hc ih hs hn
    have hb2 := below_two (w := w) (.cells #[.bool t.f0, .string t.f1, .slice none 0 0] 25) (.cells #[.bool false, .string ⟨#[]⟩, .slice none 0 0] 25)
    have B1 := blk_mid (w := w) (.cells #[.bool t.f0, .string t.f1, .slice none 0 0] 25) (.cells #[.bool false, .string ⟨#[]⟩, .slice none 0 0] 25)
    have B2 := blk_top (w := w) (.cells #[.bool t.f0, .string t.f1, .slice none 0 0] 25) (.cells #[.bool false, .string ⟨#[]⟩, .slice none 0 0] 25)
    rcases Nat.eq_zero_or_pos t.f2.length with h0 | h0
    · have d0 : decide (0 < t.f2.length) = false := decide_eq_false (by omega)
      have HL := List.length_eq_zero_iff.1 h0
      go_enter Try.func27, Try.ntmps27
      go_wp2
      generalize (w.alloc (.cells #[.bool t.f0, .string t.f1, .slice none 0 0] 25)).alloc (.cells #[.bool false, .string ⟨#[]⟩, .slice none 0 0] 25) = W0 at *
      go_loopg [18] 1 (fun gg v18 wr => v18 = .int .i64 0 ∧ wr = W0)
      case atStart => exact ⟨rfl, rfl⟩
      case round =>
        obtain ⟨rfl, rfl⟩ := hrel
        obtain ⟨c0, c1, c2, f0, f1, f2⟩ := box3 B1
        obtain ⟨e0, e1, e2, g0, g1, g2⟩ := box3 B2
        go_wp2
        refine bodyPost_ret (results_cell_row rfl _ _ (w.heap.size + 1) 25 #[.bool t.f0, .string t.f1, .slice none 0 0] (0, 0) _ rfl (set3 B2) Try.underlying25 rfl (by kernel_rfl)) rfl ?_
        exact ⟨_, rfl, by rw [HL]; exact .nil _ _, ((hb2.setCell (by simp) _).setCell (by simp) _).setCell (by simp) _⟩
    · have d0 : decide (0 < t.f2.length) = true := decide_eq_true h0
      have hmk := fun W => run_mkT W t.f2.length hlen
      go_enter Try.func27, Try.ntmps27
      go_wp2_with fail
      obtain ⟨W0, hW0⟩ : ∃ W0, ((w.alloc (.cells #[.bool t.f0, .string t.f1, .slice (some ⟨w.heap.size + 1 + 1, 0, none⟩) t.f2.length t.f2.length] 25)).alloc (.cells #[.bool false, .string ⟨#[]⟩, .slice none 0 0] 25)).alloc (.cells (madeCells #[.bool false, .string ⟨#[]⟩, .slice none 0 0] (t.f2.length * 3)) 25) = W0 := ⟨_, rfl⟩
      have hS0 : TwinAt w t 0 W0 := by
        rw [← hW0]
        refine ⟨blk_alloc (blk_mid _ _) _, blk_alloc (blk_top _ _) _, ⟨madeCells #[.bool false, .string ⟨#[]⟩, .slice none 0 0] (t.f2.length * 3), fun _ => undef, ?_, size_madeCells _ _, fun j hj => absurd hj (by omega)⟩, (below_two _ _).alloc (by simp; omega) _⟩
        have := blk_new ((w.alloc (.cells #[.bool t.f0, .string t.f1, .slice (some ⟨w.heap.size + 1 + 1, 0, none⟩) t.f2.length t.f2.length] 25)).alloc (.cells #[.bool false, .string ⟨#[]⟩, .slice none 0 0] 25)) (.cells (madeCells #[.bool false, .string ⟨#[]⟩, .slice none 0 0] (t.f2.length * 3)) 25)
        simpa using this
      rw [hW0]
      clear hW0 B1 B2 hb2 hmk
      go_loopg [18] t.f2.length (fun gg v18 wr => ∃ kk : Nat, kk ≤ t.f2.length ∧ gg + kk = t.f2.length ∧ v18 = .int .i64 (kk : Int) ∧ Aside0 (TwinAt w t kk wr))
      case atStart => exact ⟨0, by omega, by omega, rfl, ⟨hS0⟩⟩
      case round =>
        obtain ⟨kk, hk1, hk2, rfl, hT⟩ := hrel
        clear hS0
        obtain ⟨B1, B2, ⟨cur, vs, B3, hz, hel⟩, hb⟩ := hT.out
        obtain ⟨c0, c1, c2, f0, f1, f2⟩ := box3 B1
        obtain ⟨e0, e1, e2, g0, g1, g2⟩ := box3 B2
        by_cases hkk : kk < t.f2.length
        · have q0 : decide (kk < t.f2.length) = true := decide_eq_true hkk
          obtain ⟨ad, A2, c2', rfl, hx0, hx1, hx2, hl2, hC2⟩ := at_T25 HA.out (kk : Int) (by omega) (by omega)
          have HCE := fun (W : World) (hw : Below w.heap.size w W) => Kd.C_below hC2 hw
          replace hx0 := pw_cell_below hb hx0
          replace hx1 := pw_cell_below hb hx1
          replace hx2 := pw_cell_below hb hx2
          simp only [Int.toNat_natCast] at hx0 hx1 hx2
          have hcall := fun W (hw : TwinS w wr (rd_T25 t.f2 (kk : Int)) A2 c2' (.slice (some ⟨w.heap.size + 2, 0, none⟩) t.f2.length t.f2.length) W) => (IH.out kk hkk A2 c2' W (HCE W hw.2.2.2.2) hl2).mono (fun _ W' h => show ∃ v, _ ∧ WT W' (fun k => W.heap.size ≤ k) v _ ∧ Below W.heap.size W W' ∧ TwinS w wr (rd_T25 t.f2 (kk : Int)) A2 c2' (.slice (some ⟨w.heap.size + 2, 0, none⟩) t.f2.length t.f2.length) W' from by obtain ⟨v, h1, h2, h3⟩ := h; exact ⟨v, h1, h2, h3, hw.step h3⟩)
          have hlt := blk_lt B3
          clear HCE
          generalize hX : rd_T25 t.f2 (kk : Int) = x at hx0 hx1 hx2 hl2 hC2 hcall
          have HX := Lib.hid hX
          have HEL := Aside0.mk hel
          have HB1 := Aside0.mk B1
          have HB2 := Aside0.mk B2
          have HB3 := Aside0.mk B3
          have HB := Aside0.mk hb
          clear hX hel hb hC2 hT
          have hc0 : cur[kk * 3]? = some cur[kk * 3] := Array.getElem?_eq_getElem (by omega)
          have hc1 : cur[kk * 3 + 1]? = some cur[kk * 3 + 1] := Array.getElem?_eq_getElem (by omega)
          have hc2 : cur[kk * 3 + 2]? = some cur[kk * 3 + 2] := Array.getElem?_eq_getElem (by omega)
          go_wp2_with fail
          have hS1 : TwinS w wr x A2 c2' (.slice (some ⟨w.heap.size + 2, 0, none⟩) t.f2.length t.f2.length) (wr.alloc (.cells #[.bool x.f0, .string x.f1, .slice A2 x.f2.length c2'] 25)).drew := by
            have BN := blk_new wr (.cells #[.bool x.f0, .string x.f1, .slice A2 x.f2.length c2'] 25)
            obtain ⟨n0, n1, n2, _⟩ := box3 BN
            exact ⟨n0, n1, n2, (box3 (blk_alloc HB1.out (.cells #[.bool x.f0, .string x.f1, .slice A2 x.f2.length c2'] 25))).2.2.1, below_drew1 (HB.out.alloc HB.out.size _)⟩
          go_region_held3 (fun W => TwinS w wr x A2 c2' (.slice (some ⟨w.heap.size + 2, 0, none⟩) t.f2.length t.f2.length) W)
            (first | exact hS1 | assumption | exact TwinS.put hlt (by assumption) _ _ _ _ _ _)
            (first | (go_at_call 27; refine (hcall _ (by assumption)).mono ?_; rintro e w1 ⟨v, rfl, hWT, hB1, hN⟩; obtain ⟨A4, c4, hv4, _⟩ := hWT.reads; subst hv4; have hbN := below_step (below_drew1 (below_one (w := wr) (.cells #[.bool x.f0, .string x.f1, .slice A2 x.f2.length c2'] 25))) hB1; have W3 := blk_below HB3.out hbN; have s0 := (blk_cell W3 (kk * 3)).trans hc0; have s1 := (blk_cell W3 (kk * 3 + 1)).trans hc1; have s2 := (blk_cell W3 (kk * 3 + 2)).trans hc2; have r0 := blk_frozen W3 (kk * 3); have r1 := blk_frozen W3 (kk * 3 + 1); have r2 := blk_frozen W3 (kk * 3 + 2)))
          have HR := TwinAt.next (HX.out) HB1.out HB2.out HB3.out hz HEL.out HB.out hkk (hWT.mono (fun k hk => by simp at hk; omega)) hbN
          clear hbN hWT hS1 hcall W3 s0 s1 s2 r0 r1 r2 hc0 hc1 hc2 hx0 hx1 hx2 c0 c1 c2 f0 f1 f2 e0 e1 e2 g0 g1 g2
          try clear hS0
          go_wp2
          go_roundg (t.f2.length - kk - 1)
          case measure => omega
          case rel => exact ⟨kk + 1, by omega, by omega, by simp, ⟨HR⟩⟩
        · have q0 : decide (kk < t.f2.length) = false := decide_eq_false hkk
          obtain rfl : kk = t.f2.length := by omega
          clear hkk
          have HEL := Aside0.mk hel
          clear hel
          go_wp2
          refine bodyPost_ret (results_cell_row rfl _ _ (w.heap.size + 1) 25 #[.bool t.f0, .string t.f1, .slice (some ⟨w.heap.size + 2, 0, none⟩) t.f2.length t.f2.length] (0, 0) _ rfl (set3 B2) Try.underlying25 rfl (by kernel_rfl)) rfl ?_
          refine ⟨_, rfl, .row _ _ cur _ vs h0 (by show w.heap.size ≤ w.heap.size + 2; omega) (blk_far (blk_far (blk_far B3 (by simp) _) (by simp) _) (by simp) _) (Nat.le_refl _) (by omega) hz (fun j hj => (HEL.out j hj).1) (fun j hj => (HEL.out j hj).2.1) (fun j hj => (HEL.out j hj).2.2.1) (fun j hj => ?_), ((hb.setCell (by simp) _).setCell (by simp) _).setCell (by simp) _⟩
          refine WT.mono ((((HEL.out j hj).2.2.2.far _ _ ?_).far _ _ ?_).far _ _ ?_) (fun k hk => Nat.le_trans (by omega) hk)
          all_goals (intro k hk; show k ≠ w.heap.size + 1; omega)

def types_Twin.f (a0_0 : Bool) (a0_1 : ByteArray) (l0_2 : List (S25)) : Option (Bool × ByteArray × (List (S25))) :=
  if szL l0_2 < 5864062014805 then some (a0_0, a0_1, l0_2) else none
theorem types_Twin.tree (a0_0 : Bool) (a0_1 : ByteArray) (A0_2 : Option Addr) (c0_2 : Nat) (l0_2 : List (S25)) (r1 : Bool) (r2 : ByteArray) (r3 : List (S25)) (w : World) (hr0_2 : Kd.C k25 w A0_2 l0_2.length l0_2) (hc0_2 : l0_2.length ≤ c0_2) (h : types_Twin.f a0_0 a0_1 l0_2 = some (r1, r2, r3)) :
    Calls Try.prog 27 #[.agg #[.bool a0_0, .string a0_1, .slice A0_2 l0_2.length c0_2]] w fun e w' => ∃ v2_ : Value, e = .returned (.agg #[.bool r1, .string r2, v2_]) ∧ WT w' (fun k_ => w.heap.size ≤ k_) v2_ r3 ∧ Below w.heap.size w w' := by
  unfold types_Twin.f at h
  split at h
  · simp only [Option.some.injEq, Prod.mk.injEq] at h
    obtain ⟨rfl, rfl, rfl⟩ := h
    exact twin_calls _ ⟨a0_0, a0_1, l0_2⟩ A0_2 c0_2 w (Nat.le_refl _) (by simp only [szT]; omega) hr0_2 hc0_2
  · simp at h
theorem types_Twin.calls (a0_0 : Bool) (a0_1 : ByteArray) (A0_2 : Option Addr) (c0_2 : Nat) (l0_2 : List (S25)) (r1 : Bool) (r2 : ByteArray) (r3 : List (S25)) (w : World) (hr0_2 : Kd.C k25 w A0_2 l0_2.length l0_2) (hc0_2 : l0_2.length ≤ c0_2) (h : types_Twin.f a0_0 a0_1 l0_2 = some (r1, r2, r3)) :
    Calls Try.prog 27 #[.agg #[.bool a0_0, .string a0_1, .slice A0_2 l0_2.length c0_2]] w fun e w' => ∃ v2_ : Value, e = .returned (.agg #[.bool r1, .string r2, v2_]) ∧ Kd.V k25 25 w' w.heap.size (fun k_ => w.heap.size ≤ k_) v2_ r3 ∧ Below w.heap.size w w' :=
  (types_Twin.tree a0_0 a0_1 A0_2 c0_2 l0_2 r1 r2 r3 w hr0_2 hc0_2 h).mono (fun _ _ ⟨v, h1, h2, h3⟩ => ⟨v, h1, h2.V _, h3⟩)
end Go.Proofs.Ytgnklkmifcmlhaa.Q
/- Proved here: what the printed functions on sizes, names and shapes of types answer in the end. Conditions: those that each theorem names. -/
namespace Go.Proofs.Ytgnklkmifcmlhaa.Q
open Go.RowKit Go.Proofs.YtgnklkmifcmlhaaW.PrintWords Go.Proofs.YtgnklkmifcmlhaaW.PrintMore
set_option linter.unusedVariables false
set_option linter.unusedSimpArgs false

/-! ### What a function with a purse answers in the end -/
def Ev {α : Type} (f : Nat → Option α) (r : α) : Prop := ∃ K, ∀ k, K ≤ k → f k = some r
theorem Ev.pure {α : Type} (r : α) : Ev (fun _ => some r) r := ⟨0, fun _ _ => rfl⟩
theorem Ev.bind {α β : Type} {f : Nat → Option α} {g : α → Nat → Option β} {a : α} {r : β} (h : Ev f a) (h2 : Ev (fun k => g a k) r) : Ev (fun k => (f k).bind fun x => g x k) r := by
  obtain ⟨K, hK⟩ := h
  obtain ⟨K2, hK2⟩ := h2
  exact ⟨K + K2, fun k hk => by show (f k).bind _ = _; rw [hK k (by omega), Option.bind_some]; exact hK2 k (by omega)⟩
theorem Ev.succ {α : Type} {f : Nat → Option α} {r : α} (h : Ev (fun k => f (k + 1)) r) : Ev f r := by
  obtain ⟨K, hK⟩ := h
  exact ⟨K + 1, fun k hk => by
    obtain ⟨k', rfl⟩ : ∃ k', k = k' + 1 := ⟨k - 1, by omega⟩
    exact hK k' (by omega)⟩
theorem Ev.cong {α : Type} {f g : Nat → Option α} {r : α} (h : Ev g r) (e : ∀ k, f k = g k) : Ev f r := by
  obtain ⟨K, hK⟩ := h
  exact ⟨K, fun k hk => (e k).trans (hK k hk)⟩
theorem Ev.val {α : Type} {f : Nat → Option α} {r r' : α} (h : Ev f r) (e : r = r') : Ev f r' := e ▸ h
theorem Ev.at {α : Type} {f : Nat → Option α} {r : α} (h : Ev f r) : ∃ k, f k = some r := by
  obtain ⟨K, hK⟩ := h
  exact ⟨K, hK K (Nat.le_refl _)⟩
theorem down (P : Nat → Prop) (n : Nat) (hn : P n) (hs : ∀ j, j < n → P (j + 1) → P j) : P 0 := by
  have : ∀ d j, j + d = n → P j := by
    intro d
    induction d with
    | zero => intro j hj; have e : j = n := by omega
              rw [e]; exact hn
    | succ d ih => intro j hj; exact hs j (by omega) (ih (j + 1) (by omega))
  exact this n 0 (by omega)
theorem Ev.ite {α : Type} {c : Prop} [Decidable c] {f g : Nat → Option α} {r : α} (h : c → Ev f r) (h2 : ¬ c → Ev g r) : Ev (fun k => if c then f k else g k) r := by
  by_cases hc : c
  · exact (h hc).cong (fun k => if_pos hc)
  · exact (h2 hc).cong (fun k => if_neg hc)
theorem Ev.pos {α : Type} {c : Prop} [Decidable c] {f g : Nat → Option α} {r : α} (hc : c) (h : Ev f r) : Ev (fun k => if c then f k else g k) r := h.cong (fun k => if_pos hc)
theorem Ev.neg {α : Type} {c : Prop} [Decidable c] {f g : Nat → Option α} {r : α} (hc : ¬ c) (h : Ev g r) : Ev (fun k => if c then f k else g k) r := h.cong (fun k => if_neg hc)
theorem w64 {x : Int} (h0 : -9223372036854775808 ≤ x) (h1 : x < 9223372036854775808) : wrap64 x = x := by unfold wrap64; omega
theorem w64s {j : Nat} (h : j < 9223372036854775807) : wrap64 ((j : Int) + 1) = ((j + 1 : Nat) : Int) := by rw [w64 (by omega) (by omega)]; omega
theorem rdT (l : List S25) (j : Nat) (h : j < l.length) : rd_T25 l (j : Int) = l[j] := by
  unfold rd_T25
  simp only [Int.toNat_natCast]
  rw [List.getD_eq_getElem?_getD, List.getElem?_eq_getElem h]
  rfl

theorem szL_take (l : List S25) (j : Nat) (h : j < l.length) : szL (l.take (j + 1)) = szL (l.take j) + szT l[j] := by
  induction l generalizing j with
  | nil => simp at h
  | cons a l ih =>
    cases j with
    | zero => simp [szL]
    | succ j =>
      simp only [List.length_cons] at h
      simp only [List.take_succ_cons, szL, List.getElem_cons_succ]
      rw [ih j (by omega)]
      omega
theorem szL_le (l : List S25) (j : Nat) (h : j < l.length) : szL (l.take j) + szT l[j] ≤ szL l := by
  rw [← szL_take l j h]
  have : ∀ (l : List S25) (n : Nat), szL (l.take n) ≤ szL l := by
    intro l
    induction l with
    | nil => intro n; simp
    | cons a l ih =>
      intro n
      cases n with
      | zero => simp [szL]
      | succ n => simp only [List.take_succ_cons, szL]; have := ih n; omega
  exact this l (j + 1)
mutual
def dpT : S25 → Nat
  | ⟨_, _, l⟩ => dpL l + 1
def dpL : List S25 → Nat
  | [] => 0
  | a :: l => max (dpT a) (dpL l)
end
theorem dpT_eq (t : S25) : dpT t = dpL t.f2 + 1 := by cases t; simp [dpT]
theorem dpL_take (l : List S25) (j : Nat) (h : j < l.length) : dpL (l.take (j + 1)) = max (dpL (l.take j)) (dpT l[j]) := by
  induction l generalizing j with
  | nil => simp at h
  | cons a l ih =>
    cases j with
    | zero => simp [dpL]
    | succ j =>
      simp only [List.length_cons] at h
      simp only [List.take_succ_cons, dpL, List.getElem_cons_succ]
      rw [ih j (by omega)]
      omega
mutual
theorem dpT_le : ∀ t : S25, dpT t ≤ szT t
  | ⟨_, _, l⟩ => by simp only [dpT, szT]; have := dpL_le l; omega
theorem dpL_le : ∀ l : List S25, dpL l ≤ szL l
  | [] => by simp [dpL, szL]
  | a :: l => by simp only [dpL, szL]; have := dpT_le a; have := dpL_le l; omega
end
/-- Induction over trees. -/
theorem S_ind {P : S25 → Prop} (h : ∀ t, (∀ x, x ∈ t.f2 → P x) → P t) (t : S25) : P t := by
  have : ∀ n t, szT t ≤ n → P t := by
    intro n
    induction n with
    | zero => intro t ht; have := szT_pos t; omega
    | succ n ih =>
      intro t ht
      refine h t (fun x hx => ih x ?_)
      have := szL_mem t.f2 x hx
      have := szT_eq t
      omega
  exact this _ t (Nat.le_refl _)

theorem mx_nat (a b : Nat) : mx (a : Int) (b : Int) = ((max a b : Nat) : Int) := by
  unfold mx
  split <;> omega
/-! ### names -/
def okC (c : Int) : Bool := !(decide (c < 33) || decide (c > 126) || c == 40 || c == 41 || c == 44 || c == 58 || c == 92 || c == 46 || c == 34)
def okFrom (s : ByteArray) : Nat → Nat → Bool
  | 0, _ => true
  | d + 1, j => okC (bt s (j : Int)) && okFrom s d (j + 1)
def nameB (s : ByteArray) : Bool := decide (0 < s.size) && decide (s.size ≤ 30) && okFrom s s.size 0
def varB (s : ByteArray) : Bool := nameB s && (bt s 0 == 39)
theorem toList_nil (s : ByteArray) : s.toList = [] ↔ s.size = 0 := by
  rw [Go.ByteArray.toList_eq, ← data_length s]
  exact List.length_eq_zero_iff.symm
theorem name_j1 (s : ByteArray) (c n i : Int) (b r : Bool) (h : Ev (fun k => types_name.l0 k s n (wrap64 (i + 1))) r) : Ev (fun k => types_name.j1 k s c n i b) (!b && !decide (c < 33) && !decide (c > 126) && r) := by
  refine Ev.succ ?_
  simp only [types_name.j1]
  refine Ev.ite (fun e => (Ev.pure _).val (by simp [e])) (fun e => Ev.ite (fun e2 => (Ev.pure _).val (by simp [e2])) (fun e2 => Ev.ite (fun e3 => (Ev.pure _).val (by simp [e3])) (fun e3 => h.val ?_)))
  rw [Bool.not_eq_true] at e
  simp [e, e2, e3]
theorem name_l0 (s : ByteArray) (hs : s.size ≤ 4611686018427387904) : ∀ (d j : Nat), j + d = s.size → Ev (fun k => types_name.l0 k s (s.size : Int) (j : Int)) (okFrom s d j && (decide (0 < s.size) && decide (s.size ≤ 30)))
  | 0, j, hj => by
    refine Ev.succ ?_
    simp only [types_name.l0]
    refine Ev.neg (by omega) (?_)
    refine Ev.ite (fun e => (Ev.pure _).val ?_) (fun e => (Ev.pure _).val ?_)
    · rw [toList_nil] at e
      simp [okFrom, e]
    · rw [toList_nil] at e
      have h0 : 0 < s.size := by omega
      simp only [okFrom, h0, decide_true, Bool.true_and]
      exact decide_eq_decide.2 (by omega)
  | d + 1, j, hj => by
    have ih := name_l0 s hs d (j + 1) (by omega)
    refine Ev.succ ?_
    simp only [types_name.l0]
    refine Ev.pos (by omega) (Ev.pos (by omega) (Ev.pos (by omega) (?_)))
    rw [← w64s (by omega)] at ih
    have hj1 := fun b => name_j1 s (bt s (j : Int)) (s.size : Int) (j : Int) b _ ih
    simp only [okFrom]
    generalize bt s (j : Int) = c at *
    generalize HR : (okFrom s d (j + 1) && (decide (0 < s.size) && decide (s.size ≤ 30))) = r at *
    refine Ev.ite (fun e => (hj1 _).val ?_) (fun e => Ev.ite (fun e2 => (hj1 _).val ?_) (fun e2 => Ev.ite (fun e3 => (hj1 _).val ?_) (fun e3 => Ev.ite (fun e4 => (hj1 _).val ?_) (fun e4 => Ev.ite (fun e5 => (hj1 _).val ?_) (fun e5 => Ev.ite (fun e6 => (hj1 _).val ?_) (fun e6 => (hj1 _).val ?_))))))
    · simp [okC, e]
    · simp [okC, e2]
    · simp [okC, e3]
    · simp [okC, e4]
    · simp [okC, e5]
    · simp [okC, e6]
    · simp only [okC, beq_eq_false_iff_ne.mpr e, beq_eq_false_iff_ne.mpr e2, beq_eq_false_iff_ne.mpr e3, beq_eq_false_iff_ne.mpr e4, beq_eq_false_iff_ne.mpr e5, beq_eq_false_iff_ne.mpr e6, Bool.or_false]
      rw [← HR]
      cases (c == 34) <;> cases decide (c < 33) <;> cases decide (c > 126) <;> simp [Bool.and_assoc]
theorem name_ev (s : ByteArray) (hs : s.size ≤ 4611686018427387904) : Ev (fun k => types_name.f k s) (nameB s) := by
  simp only [types_name.f]
  refine (name_l0 s hs s.size 0 (by omega)).val ?_
  unfold nameB
  cases okFrom s s.size 0 <;> simp
theorem nameB_pos {s : ByteArray} (h : nameB s = true) : 0 < s.size := by
  unfold nameB at h
  simp only [Bool.and_eq_true, decide_eq_true_eq] at h
  exact h.1.1
theorem variable_ev (s : ByteArray) (hs : s.size ≤ 4611686018427387904) : Ev (fun k => types_variable.f k s) (varB s) := by
  simp only [types_variable.f]
  unfold varB
  refine Ev.bind (name_ev s hs) (Ev.ite (fun e => Ev.pos (by have := nameB_pos e; omega) ((Ev.pure _).val (by simp [e]))) (fun e => (Ev.pure _).val (by simp [e])))
/-! ### types -/
def headB (v : Bool) (n : ByteArray) (m : Nat) : Bool := nameB n && (if v = true then (bt n 0 == 39) && (m == 0) else !(bt n 0 == 39) && decide (m ≤ 8))
mutual
def shB : S25 → Bool
  | ⟨v, n, l⟩ => headB v n l.length && shBL l
def shBL : List S25 → Bool
  | [] => true
  | a :: l => shB a && shBL l
end
theorem shB_eq (t : S25) : shB t = (headB t.f0 t.f1 t.f2.length && shBL t.f2) := by cases t; simp [shB]
theorem shBL_take (l : List S25) (j : Nat) (h : j < l.length) : shBL (l.take (j + 1)) = (shBL (l.take j) && shB l[j]) := by
  induction l generalizing j with
  | nil => simp at h
  | cons a l ih =>
    cases j with
    | zero => simp [shBL]
    | succ j =>
      simp only [List.length_cons] at h
      simp only [List.take_succ_cons, shBL, List.getElem_cons_succ]
      rw [ih j (by omega), Bool.and_assoc]
theorem shBL_drop (l : List S25) (j : Nat) (h : j < l.length) : shBL (l.drop j) = (shB l[j] && shBL (l.drop (j + 1))) := by
  rw [List.drop_eq_getElem_cons h]
  rfl
mutual
def allT (P : S25 → Prop) : S25 → Prop
  | ⟨v, n, l⟩ => P ⟨v, n, l⟩ ∧ allL P l
def allL (P : S25 → Prop) : List S25 → Prop
  | [] => True
  | a :: l => allT P a ∧ allL P l
end
theorem allT_eq (P : S25 → Prop) (t : S25) : allT P t ↔ P t ∧ allL P t.f2 := by cases t; simp [allT]
theorem allL_mem (P : S25 → Prop) : ∀ (l : List S25), allL P l ↔ ∀ x, x ∈ l → allT P x
  | [] => by simp [allL]
  | a :: l => by simp [allL, allL_mem P l]
/-- What any machine can hold. -/
def okS (s : ByteArray) : Prop := s.size ≤ 4611686018427387904
def fit (t : S25) : Prop := szT t ≤ 4611686018427387904 ∧ allT (fun x => okS x.f1) t
theorem fit_mem {t x : S25} (h : fit t) (hx : x ∈ t.f2) : fit x := by
  have h1 := szL_mem t.f2 x hx
  have h2 := szT_eq t
  exact ⟨by have := h.1; omega, (allL_mem _ _).1 ((allT_eq _ t).1 h.2).2 x hx⟩
theorem fit_name {t : S25} (h : fit t) : t.f1.size ≤ 4611686018427387904 := ((allT_eq _ t).1 h.2).1

/-- Every row and name is of a length that a machine can bear; of the whole tree nothing is said. -/
def wd (t : S25) : Prop := allT (fun x => okS x.f1 ∧ x.f2.length ≤ 4611686018427387904) t
theorem wd_mem {t x : S25} (h : wd t) (hx : x ∈ t.f2) : wd x := (allL_mem _ _).1 ((allT_eq _ t).1 h).2 x hx
theorem wd_name {t : S25} (h : wd t) : t.f1.size ≤ 4611686018427387904 := ((allT_eq _ t).1 h).1.1
theorem wd_len {t : S25} (h : wd t) : t.f2.length ≤ 4611686018427387904 := ((allT_eq _ t).1 h).1.2
theorem allT_imp {P Q : S25 → Prop} (hi : ∀ x, P x → Q x) (t : S25) : allT P t → allT Q t := by
  induction t using S_ind with
  | _ t ih =>
    intro h
    have h2 := (allT_eq _ t).1 h
    exact (allT_eq _ t).2 ⟨hi t h2.1, (allL_mem _ _).2 (fun x hx => ih x hx ((allL_mem _ _).1 h2.2 x hx))⟩
theorem fit_of_wd {t : S25} (h : wd t) (hs : szT t ≤ 4611686018427387904) : fit t := ⟨hs, allT_imp (fun _ h => h.1) t h⟩
theorem nat_beq0 (n : Nat) : ((n : Int) == 0) = (n == 0) := by
  cases n with
  | zero => rfl
  | succ n => rw [beq_eq_false_iff_ne.mpr (show ((n + 1 : Nat) : Int) ≠ 0 by omega), beq_eq_false_iff_ne.mpr (show n + 1 ≠ 0 by omega)]
theorem measure_ev (t : S25) : fit t → Ev (fun k => types_measure.f k t.f0 t.f1 t.f2) ((szT t : Int), (dpT t : Int), shB t) := by
  induction t using S_ind with
  | _ t ih =>
  intro hf
  have hb := hf.1
  have hd := dpT_le t
  rw [szT_eq] at hb hd
  rw [dpT_eq] at hd
  have hl := szL_len t.f2
  have hloop : ∀ (b : Bool) a0 a1, Ev (fun k => types_measure.j0 k 1 0 b a0 a1 t.f2) ((szT t : Int), (dpT t : Int), b && shBL t.f2) := by
    intro b a0 a1
    refine Ev.succ ?_
    simp only [types_measure.j0]
    refine Ev.cong (down (fun j => Ev (fun k => types_measure.l0 k ((1 + szL (t.f2.take j) : Nat) : Int) ((dpL (t.f2.take j) : Nat) : Int) (b && shBL (t.f2.take j)) t.f2 (t.f2.length : Int) (j : Int)) ((szT t : Int), (dpT t : Int), b && shBL t.f2)) t.f2.length ?_ ?_) (fun k => by simp [szL, dpL, shBL])
    · refine Ev.succ ?_
      simp only [types_measure.l0, List.take_length]
      refine Ev.neg (by omega) ((Ev.pure _).val ?_)
      rw [szT_eq, dpT_eq, w64 (by omega) (by omega)]
      exact Prod.ext (by simp; omega) (Prod.ext (by simp) rfl)
    · intro j hj h
      refine Ev.succ ?_
      have hle := szL_le t.f2 j hj
      simp only [types_measure.l0]
      refine Ev.pos (by omega) (Ev.pos (by omega) (Ev.pos (by omega) ?_))
      rw [rdT t.f2 j hj]
      refine Ev.bind (ih _ (List.getElem_mem hj) (fit_mem hf (List.getElem_mem hj))) ?_
      dsimp only
      rw [w64s (by omega), mx_nat, w64 (by omega) (by omega)]
      rw [szL_take t.f2 j hj, dpL_take t.f2 j hj, shBL_take t.f2 j hj] at h
      refine Ev.ite (fun e => ?_) (fun e => ?_)
      · simp only [Bool.and_eq_true] at e
        rw [e.1, e.2] at h
        simp only [Bool.true_and] at h
        rw [e.1]
        exact h.cong (fun k => by congr 1; omega)
      · have e2 : (b && (shBL (t.f2.take j) && shB t.f2[j])) = false := by
          rw [← Bool.and_assoc]
          rw [Bool.not_eq_true] at e
          rw [e]
          rfl
        rw [e2] at h
        exact h.cong (fun k => by congr 1; omega)
  have hn := fit_name hf
  refine Ev.succ ?_
  simp only [types_measure.f]
  rw [shB_eq]
  unfold headB
  refine Ev.ite (fun e => ?_) (fun e => ?_)
  · refine Ev.bind (variable_ev _ hn) (Ev.ite (fun e2 => (hloop _ _ _).val ?_) (fun e2 => (hloop _ _ _).val ?_))
    · unfold varB at e2
      simp only [Bool.and_eq_true] at e2
      rw [if_pos e, e2.1, e2.2, nat_beq0]
      simp
    · unfold varB at e2
      rw [Bool.not_eq_true] at e2
      rw [if_pos e, ← Bool.and_assoc, e2]
      simp
  · rw [if_neg e]
    refine Ev.bind (name_ev _ hn) (Ev.ite (fun e2 => Ev.pos (by have := nameB_pos e2; omega) (Ev.ite (fun e3 => (hloop _ _ _).val ?_) (fun e3 => (hloop _ _ _).val ?_))) (fun e2 => (hloop _ _ _).val ?_))
    · simp [e3]
    · rw [e2, beq_eq_false_iff_ne.mpr e3, show decide ((t.f2.length : Int) ≤ 8) = decide (t.f2.length ≤ 8) from decide_eq_decide.2 (by omega)]
      simp
    · rw [Bool.not_eq_true] at e2
      rw [e2]
      simp
def chkB (t : S25) : Bool := shB t && decide (szT t ≤ 500) && decide (dpT t ≤ 200)
theorem check_ev (t : S25) (hf : fit t) : Ev (fun k => types_Check.f k t.f0 t.f1 t.f2) (if chkB t = true then 0 else 10) := by
  simp only [types_Check.f]
  unfold chkB
  refine Ev.bind (measure_ev t hf) ?_
  dsimp only
  refine Ev.ite (fun e => Ev.ite (fun e2 => (Ev.pure _).val ?_) (fun e2 => Ev.ite (fun e3 => (Ev.pure _).val ?_) (fun e3 => (Ev.pure _).val ?_))) (fun e => (Ev.pure _).val ?_)
  · rw [decide_eq_false (show ¬ szT t ≤ 500 by omega)]
    simp
  · rw [decide_eq_false (show ¬ dpT t ≤ 200 by omega)]
    simp
  · rw [decide_eq_true (show szT t ≤ 500 by omega), decide_eq_true (show dpT t ≤ 200 by omega), e]
    simp
  · rw [Bool.not_eq_true] at e
    rw [e]
    simp
end Go.Proofs.Ytgnklkmifcmlhaa.Q
-- written by a program of this session (wip/tools/myprint.py) out of the translation
namespace Go.Proofs.Ytgnklkmifcmlhaa.Q
open Go.RowKit Go.Proofs.YtgnklkmifcmlhaaW.PrintWords Go.Proofs.YtgnklkmifcmlhaaW.PrintLast Go.Proofs.YtgnklkmifcmlhaaW.PrintMore
attribute [local go_sem] max2_int min2_int max_two min_two max_three min_three max_four min_four   -- for this text's walks alone
set_option linter.unusedVariables false
set_option linter.unusedSimpArgs false

/-! ### terms_leaf: function 128 -/
end Go.Proofs.Ytgnklkmifcmlhaa.Q
-- written by a program of this session (wip/tools/myprint.py) out of the translation
namespace Go.Proofs.Ytgnklkmifcmlhaa.Q
open Go.RowKit Go.Proofs.YtgnklkmifcmlhaaW.PrintWords Go.Proofs.YtgnklkmifcmlhaaW.PrintLast Go.Proofs.YtgnklkmifcmlhaaW.PrintMore
attribute [local go_sem] max2_int min2_int max_two min_two max_three min_three max_four min_four   -- for this text's walks alone
set_option linter.unusedVariables false
set_option linter.unusedSimpArgs false

/-! ### terms_Const: function 113 -/
end Go.Proofs.Ytgnklkmifcmlhaa.Q
-- written by a program of this session (wip/tools/myprint.py) out of the translation
namespace Go.Proofs.Ytgnklkmifcmlhaa.Q
open Go.RowKit Go.Proofs.YtgnklkmifcmlhaaW.PrintWords Go.Proofs.YtgnklkmifcmlhaaW.PrintLast Go.Proofs.YtgnklkmifcmlhaaW.PrintMore
attribute [local go_sem] max2_int min2_int max_two min_two max_three min_three max_four min_four   -- for this text's walks alone
set_option linter.unusedVariables false
set_option linter.unusedSimpArgs false

/-! ### printer_valid: function 82 -/
end Go.Proofs.Ytgnklkmifcmlhaa.Q
/- Proved here: the contracts of types.Fun, types.Bool and of the laws' v. Conditions: those that each theorem names. -/
namespace Go.Proofs.Ytgnklkmifcmlhaa.Q
open Go.RowKit Go.Shelf Go.Proofs.YtgnklkmifcmlhaaW.PrintWords Go.Proofs.YtgnklkmifcmlhaaW.PrintMore
set_option linter.unusedVariables false
set_option linter.unusedSimpArgs false
attribute [local go_sem] Oper.semAt_some

end Go.Proofs.Ytgnklkmifcmlhaa.Q
/- Proved here: valid substitutions: what types.valid answers. Conditions: those that each theorem names. -/
namespace Go.Proofs.Ytgnklkmifcmlhaa.Q
open Go.RowKit Go.Shelf Go.Proofs.YtgnklkmifcmlhaaW.PrintWords Go.Proofs.YtgnklkmifcmlhaaW.PrintMore
set_option linter.unusedVariables false
set_option linter.unusedSimpArgs false
attribute [local go_sem] Oper.semAt_some

/-! ### What Inst answers -/
end Go.Proofs.Ytgnklkmifcmlhaa.Q
/- Proved here: rows of bindings under construction (append), each binding's type being a tree of the call's own. Conditions: those that each theorem names. -/
namespace Go.Proofs.Ytgnklkmifcmlhaa.Q
open Go.RowKit Go.Proofs.YtgnklkmifcmlhaaW.PrintWords Go.Proofs.YtgnklkmifcmlhaaW.PrintMore
set_option linter.unusedVariables false
set_option linter.unusedSimpArgs false

end Go.Proofs.Ytgnklkmifcmlhaa.Q
/- Proved here: the contract of types.Same. Conditions: those that each theorem names. -/
namespace Go.Proofs.Ytgnklkmifcmlhaa.Q
open Go.RowKit Go.Shelf Go.Proofs.YtgnklkmifcmlhaaW.PrintWords Go.Proofs.YtgnklkmifcmlhaaW.PrintMore
set_option linter.unusedVariables false
set_option linter.unusedSimpArgs false
attribute [local go_sem] Oper.semAt_some
end Go.Proofs.Ytgnklkmifcmlhaa.Q
/- Proved here: the contract of types.match. Conditions: those that each theorem names. -/
namespace Go.Proofs.Ytgnklkmifcmlhaa.Q
open Go.RowKit Go.Shelf Go.Proofs.YtgnklkmifcmlhaaW.PrintWords Go.Proofs.YtgnklkmifcmlhaaW.PrintMore
set_option linter.unusedVariables false
set_option linter.unusedSimpArgs false
attribute [local go_sem] Oper.semAt_some

/-! ### match -/
end Go.Proofs.Ytgnklkmifcmlhaa.Q
/- Proved here: the contract of types.Match. Conditions: those that each theorem names. -/
namespace Go.Proofs.Ytgnklkmifcmlhaa.Q
open Go.RowKit Go.Shelf Go.Proofs.YtgnklkmifcmlhaaW.PrintWords Go.Proofs.YtgnklkmifcmlhaaW.PrintMore
set_option linter.unusedVariables false
set_option linter.unusedSimpArgs false
attribute [local go_sem] Oper.semAt_some

/-! ### Match -/
end Go.Proofs.Ytgnklkmifcmlhaa.Q
/- Proved here: what the reference's Compare and Same answer in the end. Conditions: those that each theorem names. -/
namespace Go.Proofs.Ytgnklkmifcmlhaa.Q
open Go.RowKit Go.Shelf Go.Proofs.YtgnklkmifcmlhaaW.PrintWords Go.Proofs.YtgnklkmifcmlhaaW.PrintMore
set_option linter.unusedVariables false
set_option linter.unusedSimpArgs false

/-! ### Compare and Same of the reference -/
theorem cmpB_eq : ∀ x y : List UInt8, Lib.compareBytes x y = if x = y then 0 else if Op.bytesLess x y = true then -1 else 1
  | [], [] => by simp [Lib.compareBytes]
  | [], _ :: _ => by simp [Lib.compareBytes, Op.bytesLess]
  | _ :: _, [] => by simp [Lib.compareBytes, Op.bytesLess]
  | a :: x, b :: y => by
    simp only [Lib.compareBytes, Op.bytesLess, cmpB_eq x y]
    by_cases h1 : a < b
    · have hne : ¬ a = b := by rintro rfl; exact absurd h1 (UInt8.lt_irrefl a)
      simp [h1, hne]
    · by_cases h2 : b < a
      · have hne : ¬ a = b := by rintro rfl; exact absurd h2 (UInt8.lt_irrefl a)
        simp [h1, h2, hne]
      · have he : a = b := by
          apply UInt8.le_antisymm
          · exact UInt8.not_lt.1 h2
          · exact UInt8.not_lt.1 h1
        subst he
        simp [h1]
theorem bytes_toList (a b : ByteArray) : a.toList = b.toList ↔ a = b := by
  rw [Go.ByteArray.toList_eq, Go.ByteArray.toList_eq]
  constructor
  · intro h
    cases a; cases b
    simp only at h
    congr 1
    exact Array.toList_inj.1 h
  · rintro rfl; rfl
theorem cmpI_zero (a b : Int) : cmpI a b = 0 ↔ a = b := by
  unfold cmpI
  split
  · omega
  · split <;> omega
theorem refcmp_ev (x : S25) : ∀ y : S25, szT x ≤ 4611686018427387904 → Ev (fun k => sequentref01_Compare.f k x.f0 x.f1 x.f2 y.f0 y.f1 y.f2) (cmpT x y) := by
  induction x using S_ind with
  | _ x ih =>
    intro y hx
    rw [szT_eq] at hx
    have hl := szL_len x.f2
    rw [cmpT_eq]
    unfold headC or3
    refine Ev.succ ?_
    simp only [sequentref01_Compare.f]
    have hb := cmpB_eq x.f1.data.toList y.f1.data.toList
    rw [← Go.ByteArray.toList_eq, ← Go.ByteArray.toList_eq] at hb
    rw [← Go.ByteArray.toList_eq, ← Go.ByteArray.toList_eq]
    refine Ev.ite (fun e => ?_) (fun e => ?_)
    · refine Ev.ite (fun e2 => (Ev.pure _).val ?_) (fun e2 => (Ev.pure _).val ?_)
      · have h1 : y.f0 = false := by cases hy : y.f0 <;> simp_all
        rw [e2, h1]
        simp [rankT, cmpI]
      · rw [Bool.not_eq_true] at e2
        have h1 : y.f0 = true := by cases hy : y.f0 <;> simp_all
        rw [e2, h1]
        simp [rankT, cmpI]
    · have h0 : x.f0 = y.f0 := by cases hy : y.f0 <;> cases hx : x.f0 <;> simp_all
      rw [h0, show cmpI (rankT y.f0) (rankT y.f0) = 0 from (cmpI_zero _ _).2 rfl]
      simp only [ne_eq, not_true_eq_false, if_false]
      rw [hb]
      refine Ev.ite (fun e2 => ?_) (fun e2 => ?_)
      · rw [if_pos e2]
        simp only [not_true_eq_false, if_false]
        refine Ev.ite (fun e3 => ?_) (fun e3 => ?_)
        · rw [(cmpI_zero _ _).2 e3]
          simp only [not_true_eq_false, if_false]
          have hlen : x.f2.length = y.f2.length := by omega
          refine down (fun j => Ev (fun k => sequentref01_Compare.l0 k (j : Int) y.f0 x.f1 x.f2 y.f0 y.f1 y.f2) (cmpL (x.f2.drop j) (y.f2.drop j))) x.f2.length ?_ ?_
          · refine Ev.succ ?_
            simp only [sequentref01_Compare.l0]
            refine Ev.neg (by omega) ((Ev.pure _).val ?_)
            rw [List.drop_length, hlen, List.drop_length]
            rfl
          · intro j hj h
            refine Ev.succ ?_
            simp only [sequentref01_Compare.l0]
            refine Ev.pos (by omega) (Ev.pos (by omega) (Ev.pos (by omega) ?_))
            rw [rdT x.f2 j hj, rdT y.f2 j (by omega)]
            have hm := szL_mem x.f2 _ (List.getElem_mem hj)
            refine Ev.bind (ih _ (List.getElem_mem hj) y.f2[j] (by omega)) ?_
            rw [List.drop_eq_getElem_cons hj, List.drop_eq_getElem_cons (show j < y.f2.length by omega), cmpL, w64s (by omega)]
            refine Ev.ite (fun e4 => ?_) (fun e4 => (Ev.pure _).val ?_)
            · rw [if_neg (by simp [e4])]
              exact h
            · rw [if_pos e4]
        · have hne : ¬ cmpI (x.f2.length : Int) (y.f2.length : Int) = 0 := fun h => e3 ((cmpI_zero _ _).1 h)
          rw [if_pos hne]
          refine Ev.ite (fun e4 => (Ev.pure _).val ?_) (fun e4 => (Ev.pure _).val ?_)
          · unfold cmpI; rw [if_pos e4]
          · unfold cmpI; rw [if_neg e4, if_pos (by omega)]
      · rw [if_neg e2]
        refine Ev.ite (fun e3 => (Ev.pure _).val ?_) (fun e3 => (Ev.pure _).val ?_)
        · rw [if_pos e3]; simp
        · rw [if_neg e3]; simp
mutual
theorem cmpT_self : ∀ x : S25, cmpT x x = 0
  | ⟨v, n, l⟩ => by
    rw [cmpT_eq]
    have h : headC (⟨v, n, l⟩ : S25) ⟨v, n, l⟩ = 0 := by
      unfold headC or3
      rw [(cmpI_zero _ _).2 rfl, (cmpI_zero _ _).2 rfl, cmpB_eq, if_pos rfl]
      simp
    rw [h]
    simp only [ne_eq, not_true_eq_false, if_false]
    exact cmpL_self l
theorem cmpL_self : ∀ l : List S25, cmpL l l = 0
  | [] => rfl
  | a :: l => by simp [cmpL, cmpT_self a, cmpL_self l]
end
theorem same_ev (x y : S25) (hx : szT x ≤ 4611686018427387904) : Ev (fun k => sequentref01_Same.f k x.f0 x.f1 x.f2 y.f0 y.f1 y.f2) (cmpT x y == 0) := by
  simp only [sequentref01_Same.f]
  exact Ev.bind (refcmp_ev x y hx) (Ev.pure _)

end Go.Proofs.Ytgnklkmifcmlhaa.Q
/- Proved here: the contract of types.DestFun. Conditions: those that each theorem names. -/
namespace Go.Proofs.Ytgnklkmifcmlhaa.Q
open Go.RowKit Go.Shelf Go.Proofs.YtgnklkmifcmlhaaW.PrintWords Go.Proofs.YtgnklkmifcmlhaaW.PrintMore
set_option linter.unusedVariables false
set_option linter.unusedSimpArgs false
attribute [local go_sem] Oper.semAt_some

end Go.Proofs.Ytgnklkmifcmlhaa.Q
/- Proved here: what the reference's Great and GreatBinds answer in the end. Conditions: those that each theorem names. -/
namespace Go.Proofs.Ytgnklkmifcmlhaa.Q
open Go.RowKit Go.Shelf Go.Proofs.YtgnklkmifcmlhaaW.PrintWords Go.Proofs.YtgnklkmifcmlhaaW.PrintMore
set_option linter.unusedVariables false
set_option linter.unusedSimpArgs false

/-! ### Great -/
mutual
def cntT : S25 → Int → Nat → Int
  | ⟨_, n, l⟩, left, d => match d with | 0 => 0 | d + 1 => cntL l (left - 1 - (n.size : Int) / 100) d
def cntL : List S25 → Int → Nat → Int
  | [], left, _ => left
  | a :: l, left, d => if left > 0 then cntL l (cntT a left d) d else left
end
mutual
theorem cntT_bd : ∀ (t : S25) (left : Int) (d : Nat), left ≤ 1500 → 0 < left → cntT t left d ≤ 1500 ∧ (0 < cntT t left d → cntT t left d + szT t ≤ left)
  | ⟨v, n, l⟩, left, d, h1, h2 => by
    cases d with
    | zero => simp [cntT]
    | succ d =>
      simp only [cntT, szT]
      have := cntL_bd l (left - 1 - (n.size : Int) / 100) d (by omega)
      omega
theorem cntL_bd : ∀ (l : List S25) (left : Int) (d : Nat), left ≤ 1500 → cntL l left d ≤ 1500 ∧ (0 < cntL l left d → cntL l left d + szL l ≤ left)
  | [], left, d, h1 => by simp [cntL, szL]; omega
  | a :: l, left, d, h1 => by
    simp only [cntL, szL]
    split
    · rename_i h
      have h3 := cntT_bd a left d h1 h
      have h4 := cntL_bd l (cntT a left d) d h3.1
      omega
    · omega
end
mutual
theorem cntT_lo : ∀ (t : S25) (left : Int) (d : Nat), wd t → 0 < left → left ≤ 1500 → -461168601842738790 ≤ cntT t left d
  | ⟨v, n, l⟩, left, d, hf, h1, h2 => by
    cases d with
    | zero => simp [cntT]
    | succ d =>
      simp only [cntT]
      have hn := wd_name hf
      dsimp only at hn
      exact cntL_lo l _ d (fun x hx => wd_mem hf hx) (by omega) (by omega)
theorem cntL_lo : ∀ (l : List S25) (left : Int) (d : Nat), (∀ x, x ∈ l → wd x) → left ≤ 1500 → -461168601842738790 ≤ left → -461168601842738790 ≤ cntL l left d
  | [], left, d, _, _, h => h
  | a :: l, left, d, hf, h1, h => by
    simp only [cntL]
    split
    · rename_i hp
      have h3 := cntT_lo a left d (hf a (List.mem_cons_self ..)) hp h1
      have h4 := (cntT_bd a left d h1 hp).1
      exact cntL_lo l _ d (fun x hx => hf x (List.mem_cons_of_mem _ hx)) h4 h3
    · exact h
end
theorem count_ev (t : S25) : wd t → ∀ (left : Int) (d : Nat), 0 < left → left ≤ 1500 → d ≤ 500 → Ev (fun k => sequentref01_count.f k t.f0 t.f1 t.f2 left (d : Int)) (cntT t left d) := by
  induction t using S_ind with
  | _ t ih =>
    intro hf left d h1 h2 hd
    have hl := wd_len hf
    have hn := wd_name hf
    refine Ev.succ ?_
    simp only [sequentref01_count.f]
    cases d with
    | zero =>
      refine Ev.pos rfl ((Ev.pure _).val ?_)
      cases t; simp [cntT]
    | succ d =>
      refine Ev.neg (by omega) ?_
      rw [w64 (x := left - 1) (by omega) (by omega), w64 (x := (t.f1.size : Int) / 100) (by omega) (by omega), w64 (by omega) (by omega)]
      have hv : cntT t left (d + 1) = cntL t.f2 (left - 1 - (t.f1.size : Int) / 100) d := by cases t; simp [cntT]
      rw [hv]
      have hloop : ∀ (m j : Nat), j + m = t.f2.length → ∀ left : Int, left ≤ 1500 → -461168601842738790 ≤ left → Ev (fun k => sequentref01_count.l0 k left ((d + 1 : Nat) : Int) (j : Int) t.f0 t.f1 t.f2) (cntL (t.f2.drop j) left d) := by
        intro m
        induction m with
        | zero =>
          intro j hj left _ _
          refine Ev.succ ?_
          simp only [sequentref01_count.l0]
          refine Ev.neg (by omega) ((Ev.pure _).val ?_)
          rw [List.drop_of_length_le (by omega)]
          rfl
        | succ m ihm =>
          intro j hj left h3 h4
          have hjl : j < t.f2.length := by omega
          refine Ev.succ ?_
          simp only [sequentref01_count.l0]
          rw [List.drop_eq_getElem_cons hjl, cntL]
          refine Ev.pos (by omega) (Ev.ite (fun e => Ev.pos (by omega) ?_) (fun e => (Ev.pure _).val (by rw [if_neg e])))
          rw [rdT t.f2 j hjl, w64 (x := ((d + 1 : Nat) : Int) - 1) (by omega) (by omega), show ((d + 1 : Nat) : Int) - 1 = (d : Int) by omega, if_pos e]
          have hfx := wd_mem hf (List.getElem_mem hjl)
          refine Ev.bind (ih _ (List.getElem_mem hjl) hfx left d e h3 (by omega)) ?_
          rw [w64s (by omega)]
          exact ihm (j + 1) (by omega) _ (cntT_bd _ left d h3 e).1 (cntT_lo _ left d hfx e h3)
      exact hloop t.f2.length 0 (by omega) _ (by omega) (by omega)
def greatB (t : S25) : Bool := decide (cntT t 1500 500 ≤ 0)
theorem great_ev (t : S25) (hf : wd t) : Ev (fun k => sequentref01_Great.f k t.f0 t.f1 t.f2) (greatB t) := by
  simp only [sequentref01_Great.f]
  exact Ev.bind (count_ev t hf 1500 500 (by omega) (by omega) (by omega)) (Ev.pure _)
theorem greatB_sz {t : S25} (h : greatB t = false) : szT t ≤ 1500 := by
  unfold greatB at h
  have h1 := of_decide_eq_false h
  have h2 := (cntT_bd t 1500 500 (by omega) (by omega)).2 (by omega)
  omega

end Go.Proofs.Ytgnklkmifcmlhaa.Q
/- Proved here: the reference's SameStrings answers true for equal rows. Conditions: those that each theorem names. -/
namespace Go.Proofs.Ytgnklkmifcmlhaa.Q
open Go.RowKit Go.Shelf Go.Proofs.YtgnklkmifcmlhaaW.PrintWords Go.Proofs.YtgnklkmifcmlhaaW.PrintMore
set_option linter.unusedVariables false
set_option linter.unusedSimpArgs false
end Go.Proofs.Ytgnklkmifcmlhaa.Q
