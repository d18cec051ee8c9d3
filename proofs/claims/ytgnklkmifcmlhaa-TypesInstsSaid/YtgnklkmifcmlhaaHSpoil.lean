/- Proved here: the contract of spoil. Conditions: those that each theorem names. -/
import Derived.Test.YtgnklkmifcmlhaaHTree
namespace Go.Proofs.Ytgnklkmifcmlhaa.Q
open Go.RowKit Go.Shelf Go.Proofs.YtgnklkmifcmlhaaW.PrintWords Go.Proofs.YtgnklkmifcmlhaaW.PrintMore
set_option linter.unusedVariables false
set_option linter.unusedSimpArgs false
attribute [local go_sem] Oper.semAt_some

/-! ### Stores of strings over strings -/
structure StrStep (ok : Nat → Prop) (w w' : World) : Prop where
  os : w'.os = w.os
  tape : w'.tape = w.tape
  output : w'.output = w.output
  size : w.heap.size ≤ w'.heap.size
  keep : ∀ k, k < w.heap.size → ¬ ok k → w'.heap[k]? = w.heap[k]?
  str : ∀ (k : Nat) (cur : Array Value) (t : TypeId) (fr : Nat × Nat), w.heap[k]? = some (.cells cur t fr) → ∃ cur' : Array Value, w'.heap[k]? = some (.cells cur' t fr) ∧ cur'.size = cur.size ∧ ∀ i : Nat, cur'[i]? = cur[i]? ∨ ((∃ s, cur[i]? = some (Value.string s)) ∧ ∃ s', cur'[i]? = some (Value.string s'))
theorem StrStep.refl (ok : Nat → Prop) (w : World) : StrStep ok w w := ⟨rfl, rfl, rfl, Nat.le_refl _, fun _ _ _ => rfl, fun k cur t fr h => ⟨cur, h, rfl, fun i => .inl rfl⟩⟩
theorem StrStep.trans {ok : Nat → Prop} {a b c : World} (h : StrStep ok a b) (k : StrStep ok b c) : StrStep ok a c :=
  ⟨k.os.trans h.os, k.tape.trans h.tape, k.output.trans h.output, Nat.le_trans h.size k.size, fun i hi ho => (k.keep i (Nat.lt_of_lt_of_le hi h.size) ho).trans (h.keep i hi ho), fun i cur t fr hc => by
    obtain ⟨cur1, h1, z1, e1⟩ := h.str i cur t fr hc
    obtain ⟨cur2, h2, z2, e2⟩ := k.str i cur1 t fr h1
    refine ⟨cur2, h2, z2.trans z1, fun j => ?_⟩
    rcases e1 j with e1 | ⟨s1, s1'⟩ <;> rcases e2 j with e2 | ⟨s2, s2'⟩
    · exact .inl (e2.trans e1)
    · rw [e1] at s2; exact .inr ⟨s2, s2'⟩
    · rw [← e2] at s1'; exact .inr ⟨s1, s1'⟩
    · exact .inr ⟨s1, s2'⟩⟩
theorem StrStep.mono {ok ok' : Nat → Prop} {a b : World} (h : StrStep ok a b) (hm : ∀ k, ok k → ok' k) : StrStep ok' a b := ⟨h.os, h.tape, h.output, h.size, fun k hk ho => h.keep k hk (fun h2 => ho (hm k h2)), h.str⟩
theorem StrStep.of_below {ok : Nat → Prop} {a b : World} (h : Below a.heap.size a b) : StrStep ok a b :=
  ⟨h.os, h.tape, h.output, h.size, fun k hk _ => h.block k hk, fun k cur t fr hc => ⟨cur, (h.block k (blk_lt hc)).trans hc, rfl, fun i => .inl rfl⟩⟩
theorem StrStep.below {ok : Nat → Prop} {a b : World} {B : Nat} (h : StrStep ok a b) (hB : B ≤ a.heap.size) (ho : ∀ k, ok k → B ≤ k) : Below B a b :=
  ⟨h.os, h.tape, h.output, h.size, fun k hk => h.keep k (by omega) (fun h2 => by have := ho k h2; omega)⟩
theorem StrStep.set {ok : Nat → Prop} {w : World} {g i : Nat} {cur : Array Value} {t : TypeId} {s s' : ByteArray} (hg : w.heap[g]? = some (.cells cur t (0, 0))) (ho : ok g) (hi : cur[i]? = some (.string s)) : StrStep ok w (w.setCell ⟨g, i, none⟩ (.string s')) := by
  refine ⟨rfl, rfl, rfl, by simp [World.setCell], fun k hk hn => Below.heap_setCell _ _ _ _ (by rintro rfl; exact hn ho), fun k c t' fr hc => ?_⟩
  by_cases hk : k = g
  · subst hk
    rw [hg] at hc
    obtain ⟨rfl, rfl, rfl⟩ : cur = c ∧ t = t' ∧ (0, 0) = fr := by injection hc with hc; injection hc with a b c; exact ⟨a, b, c⟩
    refine ⟨_, blk_put hg i (.string s') rfl, by simp, fun j => ?_⟩
    by_cases hj : i = j
    · subst hj
      exact .inr ⟨⟨s, hi⟩, s', Array.getElem?_setIfInBounds_self_of_lt (Array.getElem?_eq_some_iff.1 hi).1⟩
    · exact .inl (Array.getElem?_setIfInBounds_ne hj)
  · exact ⟨c, (Below.heap_setCell _ _ _ _ hk).trans hc, rfl, fun j => .inl rfl⟩

theorem StrStep.slice_cell {ok : Nat → Prop} {a b : World} {k i n c : Nat} {cur : Array Value} {t : TypeId} {A : Option Addr} (h : StrStep ok a b) (hc : a.heap[k]? = some (.cells cur t (0, 0))) (hi : cur[i]? = some (.slice A n c)) : b.cell? ⟨k, i, none⟩ = some (.slice A n c) := by
  obtain ⟨cur', h1, _, he⟩ := h.str k cur t _ hc
  rw [blk_cell h1 i]
  rcases he i with e | ⟨⟨s, e⟩, _⟩
  · exact e.trans hi
  · rw [hi] at e; cases e
theorem StrStep.str_cell {ok : Nat → Prop} {a b : World} {k i : Nat} {cur : Array Value} {t : TypeId} {s : ByteArray} (h : StrStep ok a b) (hc : a.heap[k]? = some (.cells cur t (0, 0))) (hi : cur[i]? = some (.string s)) : ∃ (cur' : Array Value) (s' : ByteArray), b.heap[k]? = some (.cells cur' t (0, 0)) ∧ cur'[i]? = some (.string s') := by
  obtain ⟨cur', h1, _, he⟩ := h.str k cur t _ hc
  rcases he i with e | ⟨_, s', e⟩
  · exact ⟨cur', s, h1, e.trans hi⟩
  · exact ⟨cur', s', h1, e⟩
/-- A tree that may be written, whatever its names. -/
inductive WS (w : World) (ok : Nat → Prop) : Value → List S25 → Prop where
  | nil (A : Option Addr) (c : Nat) : WS w ok (.slice A 0 c) []
  | row (g cap : Nat) (cur : Array Value) (l : List S25) (vs : Nat → Value) (hn : 0 < l.length) (hg : ok g) (hb : w.heap[g]? = some (.cells cur 25 (0, 0)))
      (hl : l.length ≤ cap) (hm : cap ≤ 9223372036854775807) (hz : cur.size = cap * 3)
      (h0 : ∀ j, j < l.length → ∃ b, cur[j * 3]? = some (.bool b)) (h1 : ∀ j, j < l.length → ∃ s, cur[j * 3 + 1]? = some (.string s))
      (h2 : ∀ j, j < l.length → ∃ A c, cur[j * 3 + 2]? = some (vs j) ∧ vs j = .slice A (rd_T25 l (j : Int)).f2.length c) (hr : ∀ j, j < l.length → WS w ok (vs j) (rd_T25 l (j : Int)).f2) : WS w ok (.slice (some ⟨g, 0, none⟩) l.length cap) l
theorem WS_of_WT {w : World} {ok : Nat → Prop} {v : Value} {l : List S25} (h : WT w ok v l) : WS w ok v l := by
  induction h with
  | nil A c => exact .nil A c
  | row g cap cur l vs hn hg hb hl hm hz h0 h1 h2 hr ih => exact .row g cap cur l vs hn hg hb hl hm hz (fun j hj => ⟨_, h0 j hj⟩) (fun j hj => ⟨_, h1 j hj⟩) (fun j hj => by obtain ⟨A, c, he, _⟩ := (hr j hj).reads; exact ⟨A, c, h2 j hj, he⟩) ih
theorem WS.step {w w1 : World} {ok ok' : Nat → Prop} {v : Value} {l : List S25} (h : WS w ok v l) (hs : StrStep ok' w w1) : WS w1 ok v l := by
  induction h with
  | nil A c => exact .nil A c
  | row g cap cur l vs hn hg hb hl hm hz h0 h1 h2 hr ih =>
    obtain ⟨cur', hb', hz', he⟩ := hs.str g cur _ _ hb
    refine .row g cap cur' l vs hn hg hb' hl hm (hz'.trans hz) (fun j hj => ?_) (fun j hj => ?_) (fun j hj => ?_) ih
    · obtain ⟨b, hq⟩ := h0 j hj
      rcases he (j * 3) with e | ⟨⟨s, e⟩, _⟩
      · exact ⟨b, e.trans hq⟩
      · rw [hq] at e; cases e
    · obtain ⟨s, hq⟩ := h1 j hj
      rcases he (j * 3 + 1) with e | ⟨_, s', e⟩
      · exact ⟨s, e.trans hq⟩
      · exact ⟨s', e⟩
    · obtain ⟨A, c, hq, hv⟩ := h2 j hj
      rcases he (j * 3 + 2) with e | ⟨⟨s, e⟩, _⟩
      · exact ⟨A, c, e.trans hq, hv⟩
      · rw [hq, hv] at e; cases e
theorem WS.bound {w : World} {ok : Nat → Prop} {v : Value} {l : List S25} (h : WS w ok v l) : WS w (fun k => ok k ∧ k < w.heap.size) v l := by
  induction h with
  | nil A c => exact .nil A c
  | row g cap cur l vs hn hg hb hl hm hz h0 h1 h2 hr ih => exact .row g cap cur l vs hn ⟨hg, blk_lt hb⟩ hb hl hm hz h0 h1 h2 ih
theorem WS.inv {w : World} {ok : Nat → Prop} {v : Value} {l : List S25} (h : WS w ok v l) : l = [] ∨ ∃ (g cap : Nat) (cur : Array Value) (vs : Nat → Value), v = .slice (some ⟨g, 0, none⟩) l.length cap ∧ ok g ∧ w.heap[g]? = some (.cells cur 25 (0, 0)) ∧ l.length ≤ cap ∧ cap ≤ 9223372036854775807 ∧
    (∀ j, j < l.length → ∃ b, cur[j * 3]? = some (.bool b)) ∧ (∀ j, j < l.length → ∃ s, cur[j * 3 + 1]? = some (.string s)) ∧ (∀ j, j < l.length → ∃ A c, cur[j * 3 + 2]? = some (vs j) ∧ vs j = .slice A (rd_T25 l (j : Int)).f2.length c) ∧ (∀ j, j < l.length → WS w ok (vs j) (rd_T25 l (j : Int)).f2) := by
  cases h with
  | nil A c => exact .inl rfl
  | row g cap cur l vs hn hg hb hl hm hz h0 h1 h2 hr => exact .inr ⟨g, cap, cur, vs, rfl, hg, hb, hl, hm, h0, h1, h2, hr⟩
theorem WS.slice {w : World} {ok : Nat → Prop} {v : Value} {l : List S25} (h : WS w ok v l) : ∃ A c, v = .slice A l.length c := by
  cases h with
  | nil A c => exact ⟨A, c, rfl⟩
  | row g cap cur l vs => exact ⟨_, _, rfl⟩

set_option maxHeartbeats 2000000 in
set_option maxRecDepth 100000 in
theorem spoil_calls : ∀ (n : Nat) (l : List S25) (b : Bool) (s : ByteArray) (v : Value) (ok : Nat → Prop) (w : World), szL l ≤ n → WS w ok v l →
    Calls Try.prog 19 #[.agg #[.bool b, .string s, v]] w fun e w' => e = .returned (.tuple #[]) ∧ StrStep ok w w'
  | n, l, b, s, v, ok, w, hn, hw => by
    have ih := fun (kk : Nat) (hk : kk < l.length) b' s' v' ok' W hW => spoil_calls (n - 1) (rd_T25 l (kk : Int)).f2 b' s' v' ok' W (by
      have := szL_mem l _ (getD_mem l z25 kk hk)
      have h2 := szT_eq' (l.getD kk z25)
      show szL (l.getD kk z25).f2 ≤ n - 1
      omega) hW
    have IH := Aside0.mk ih
    obtain ⟨A, c, rfl⟩ := hw.slice
    have hw2 := hw.bound.step (ok' := ok) (StrStep.of_below (below_one (.cells #[.bool b, .string s, .slice A l.length c] 25)))
    have HW := Aside0.mk hw2
    have hll := szL_len l
    have hmax : l.length ≤ 9223372036854775807 := by
      rcases hw.inv with h | ⟨g, cap, cur, vs, _, _, _, hl, hm, _⟩
      · rw [h]; simp
      · omega
    have hbx := blk_new w (.cells #[.bool b, .string s, .slice A l.length c] 25)
    clear hw hw2 ih hn
    go_enter Try.func19, Try.ntmps19
    go_wp2_with fail
    obtain ⟨W0, hW0⟩ : ∃ W0, w.alloc (.cells #[.bool b, .string s, .slice A l.length c] 25) = W0 := ⟨_, rfl⟩
    have hb0 : Below w.heap.size w W0 := by rw [← hW0]; exact below_one _
    rw [hW0] at hbx HW ⊢
    clear hW0
    go_loopg [2] l.length (fun gg v2 wr => ∃ kk : Nat, kk ≤ l.length ∧ gg + kk = l.length ∧ v2 = .int .i64 (kk : Int) ∧ Aside0 (StrStep (fun k => ok k ∧ k < w.heap.size) W0 wr))
    case atStart => exact ⟨0, by omega, by omega, rfl, ⟨StrStep.refl _ _⟩⟩
    case round =>
      obtain ⟨kk, hk1, hk2, rfl, hS⟩ := hrel
      have hbc : wr.cell? ⟨w.heap.size, 2, none⟩ = some (.slice A l.length c) := hS.out.slice_cell hbx rfl
      by_cases hkk : kk < l.length
      · have q0 : decide (kk < l.length) = true := decide_eq_true hkk
        have hw := HW.out.step hS.out
        rcases hw.inv with h | ⟨g, cap, cur, vs, hv0, hg, hb, hl, hm, h0, h1, h2, hr⟩
        · rw [h] at hkk; simp at hkk
        · injection hv0 with hA _ hC
          subst hA hC
          obtain ⟨b', hb'⟩ := h0 kk hkk
          obtain ⟨s', hs'⟩ := h1 kk hkk
          obtain ⟨A2, c2, hv', hve⟩ := h2 kk hkk
          have hc := IH.out kk hkk b' s' _ _ wr (hr kk hkk)
          rw [hve] at hv' hc
          have x0 := (blk_cell hb (kk * 3)).trans hb'
          have x1 := (blk_cell hb (kk * 3 + 1)).trans hs'
          have x2 := (blk_cell hb (kk * 3 + 2)).trans hv'
          have HH := Aside0.mk hb
          have HS' := Lib.hid hs'
          clear h0 h1 h2 hr hb hb' hs' hv' hve hw
          go_wp2_with (go_at_call 19; refine hc.mono ?_; rintro e w1 ⟨rfl, hS1⟩; have hbc1 : w1.cell? ⟨w.heap.size, 2, none⟩ = some (.slice (some ⟨g, 0, none⟩) l.length c) := (hS.out.trans hS1).slice_cell hbx rfl; obtain ⟨cg, s2, hcg, hs2⟩ := hS1.str_cell HH.out HS'.out; have z1 := (blk_cell hcg (kk * 3 + 1)).trans hs2; have z2 := blk_frozen hcg (kk * 3 + 1))
          go_roundg (l.length - kk - 1)
          case measure => omega
          case rel => exact ⟨kk + 1, by omega, by omega, by simp, ⟨(hS.out.trans hS1).trans (StrStep.set hcg hg hs2)⟩⟩
      · have q0 : decide (kk < l.length) = false := decide_eq_false hkk
        go_wp2
        refine bodyPost_end (v := .tuple #[]) (by simp [results, Try.results19, go_sem]) rfl ?_
        exact ⟨rfl, (StrStep.of_below hb0).trans (hS.out.mono (fun k hk => hk.1))⟩
  termination_by n => n
  decreasing_by
    have := szL_mem l _ (getD_mem l z25 kk hk)
    have := szT_pos (l.getD kk z25)
    omega
end Go.Proofs.Ytgnklkmifcmlhaa.Q
