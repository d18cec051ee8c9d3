/- Proved here: trees of types in memory that may be written. Conditions: those that each theorem names. -/
import Derived.Test.YtgnklkmifcmlhaaHCmp
import Derived.Maps.AppendAt
namespace Go.Proofs.Ytgnklkmifcmlhaa.Q
open Go.RowKit Go.Proofs.YtgnklkmifcmlhaaW.PrintWords Go.Proofs.YtgnklkmifcmlhaaW.PrintMore
set_option linter.unusedVariables false
set_option linter.unusedSimpArgs false

theorem szT_eq' (t : S25) : szT t = szL t.f2 + 1 := by cases t; simp [szT]
theorem szL_len : ∀ l : List S25, l.length ≤ szL l
  | [] => Nat.zero_le _
  | a :: l => by
    have h1 := szL_len l
    have h2 := szT_pos a
    simp only [szL, List.length_cons]
    omega
theorem box3s {w : World} {g : Nat} {t : TypeId} {a b c : Value} (h : w.heap[g]? = some (.cells #[a, b, c] t (0, 0))) :
    w.cell? ⟨g, 0, none⟩ = some a ∧ w.cell? ⟨g, 1, none⟩ = some b ∧ w.cell? ⟨g, 2, none⟩ = some c ∧ w.frozen? ⟨g, 0, none⟩ = false ∧ w.frozen? ⟨g, 1, none⟩ = false ∧ w.frozen? ⟨g, 2, none⟩ = false ∧ g < w.heap.size :=
  ⟨(box3 h).1, (box3 h).2.1, (box3 h).2.2.1, (box3 h).2.2.2.1, (box3 h).2.2.2.2.1, (box3 h).2.2.2.2.2, blk_lt h⟩
/-! ### Trees of the call's own, which may be written: each row lies in a block of its own kind, not frozen -/
inductive WT (w : World) (ok : Nat → Prop) : Value → List S25 → Prop where
  | nil (A : Option Addr) (c : Nat) : WT w ok (.slice A 0 c) []
  | row (g cap : Nat) (cur : Array Value) (l : List S25) (vs : Nat → Value) (hn : 0 < l.length) (hg : ok g) (hb : w.heap[g]? = some (.cells cur 25 (0, 0)))
      (hl : l.length ≤ cap) (hm : cap ≤ 9223372036854775807) (hz : cur.size = cap * 3)
      (h0 : ∀ j, j < l.length → cur[j * 3]? = some (.bool (rd_T25 l (j : Int)).f0)) (h1 : ∀ j, j < l.length → cur[j * 3 + 1]? = some (.string (rd_T25 l (j : Int)).f1))
      (h2 : ∀ j, j < l.length → cur[j * 3 + 2]? = some (vs j)) (hr : ∀ j, j < l.length → WT w ok (vs j) (rd_T25 l (j : Int)).f2) : WT w ok (.slice (some ⟨g, 0, none⟩) l.length cap) l

theorem WT.mono {w : World} {ok ok' : Nat → Prop} {v : Value} {l : List S25} (h : WT w ok v l) (hok : ∀ k, ok k → ok' k) : WT w ok' v l := by
  induction h with
  | nil A c => exact .nil A c
  | row g cap cur l vs hn hg hb hl hm hz h0 h1 h2 hr ih => exact .row g cap cur l vs hn (hok g hg) hb hl hm hz h0 h1 h2 (fun j hj => ih j hj)
theorem WT.step {w w1 : World} {ok : Nat → Prop} {v : Value} {l : List S25} (h : WT w ok v l) (hm : ∀ k, ok k → k < w.heap.size → w1.heap[k]? = w.heap[k]?) : WT w1 ok v l := by
  induction h with
  | nil A c => exact .nil A c
  | row g cap cur l vs hn hg hb hl hm' hz h0 h1 h2 hr ih => exact .row g cap cur l vs hn hg ((hm g hg (blk_lt hb)).trans hb) hl hm' hz h0 h1 h2 (fun j hj => ih j hj)
theorem WT.bound {w : World} {ok : Nat → Prop} {v : Value} {l : List S25} (h : WT w ok v l) : WT w (fun k => ok k ∧ k < w.heap.size) v l := by
  induction h with
  | nil A c => exact .nil A c
  | row g cap cur l vs hn hg hb hl hm' hz h0 h1 h2 hr ih => exact .row g cap cur l vs hn ⟨hg, blk_lt hb⟩ hb hl hm' hz h0 h1 h2 (fun j hj => ih j hj)
theorem WT.later {w w1 : World} {ok : Nat → Prop} {v : Value} {l : List S25} (h : WT w ok v l) (hb : Below w.heap.size w w1) : WT w1 ok v l := h.step (fun k _ hk => hb.block k hk)
theorem WT.far {w : World} {ok : Nat → Prop} {v : Value} {l : List S25} (h : WT w ok v l) (p : Addr) (u : Value) (hp : ∀ k, ok k → k ≠ p.block) : WT (w.setCell p u) ok v l := h.step (fun k hk _ => Below.heap_setCell w p u k (hp k hk))
theorem rd_get (l : List S25) (j : Nat) (p : S25) (h : l[j]? = some p) : j < l.length ∧ rd_T25 l (j : Int) = p := by
  obtain ⟨hj, hp⟩ := List.getElem?_eq_some_iff.1 h
  exact ⟨hj, by unfold rd_T25; simp only [Int.toNat_natCast]; rw [List.getD_eq_getElem?_getD, h]; rfl⟩
theorem add_zero_spot (g n : Nat) : Addr.add ⟨g, 0, none⟩ n = ⟨g, n, none⟩ := by
  unfold Addr.add
  split
  · rename_i h; rw [h]
  · simp
theorem WT.reads {w : World} {ok : Nat → Prop} {v : Value} {l : List S25} (h : WT w ok v l) : ∃ A c, v = .slice A l.length c ∧ l.length ≤ c ∧ k25.C w A l.length l := by
  induction h with
  | nil A c => exact ⟨A, c, rfl, Nat.zero_le _, rfl, by simp, fun h => absurd h (by simp)⟩
  | row g cap cur l vs hn hg hb hl hm hz h0 h1 h2 hr ih =>
    refine ⟨_, _, rfl, hl, rfl, by omega, fun _ => ⟨_, rfl, fun j p hj => ?_⟩⟩
    obtain ⟨hjl, hp⟩ := rd_get l j p hj
    obtain ⟨A, c, hv, hlc, hC⟩ := ih j hjl
    have g0 := h0 j hjl
    have g1 := h1 j hjl
    have g2 := h2 j hjl
    rw [hp] at g0 g1 hv hlc hC
    rw [hv] at g2
    refine ⟨[.bool p.f0, .string p.f1, .slice A p.f2.length c], rfl, k25_mk w p hlc hC, fun i u hu => ?_⟩
    · show w.cell? (Addr.add ⟨g, 0, none⟩ (j * 3 + i)) = some u
      rw [add_zero_spot, blk_cell hb]
      match i, hu with
      | 0, hu => exact g0.trans hu
      | 1, hu => exact g1.trans hu
      | 2, hu => exact g2.trans hu
      | i + 3, hu => simp at hu
theorem WT.V {w : World} {ok : Nat → Prop} {v : Value} {l : List S25} (h : WT w ok v l) (base : Nat) : Kd.V k25 25 w base ok v l := by
  obtain ⟨A, c, rfl, hl, hC⟩ := h.reads
  refine ⟨A, c, rfl, hl, fun W' hW => ?_⟩
  obtain ⟨A', c', he, _, hC'⟩ := (h.step (w1 := W') hW).reads
  injection he with ha _ _
  rw [ha]
  exact hC'
/-- What was made by the call, as a row of its own kind, may be written. -/
theorem WT_of_R : ∀ (n : Nat) (l : List S25) (w : World) (base : Nat) (ok : Nat → Prop) (v : Value), szL l ≤ n → Kd.R k25 25 w base ok v l → WT w (fun k => ok k ∧ base ≤ k) v l
  | n, l, w, base, ok, v, hn, ⟨h0, inner, ⟨h1, h2⟩, hr⟩ => by
    rcases h2 with ⟨rfl, h2⟩ | ⟨g, cap, cur, rfl, hg, hb, hl, hm, hz, ht⟩
    · obtain rfl := List.length_eq_zero_iff.1 h2
      exact .nil _ _
    · rcases Nat.eq_zero_or_pos l.length with h3 | h3
      · obtain rfl := List.length_eq_zero_iff.1 h3
        exact .nil _ _
      · have hel : ∀ j, j < l.length → ∃ u, cur[j * 3]? = some (.bool (rd_T25 l (j : Int)).f0) ∧ cur[j * 3 + 1]? = some (.string (rd_T25 l (j : Int)).f1) ∧ cur[j * 3 + 2]? = some u ∧ WT w (fun k => ok k ∧ base ≤ k) u (rd_T25 l (j : Int)).f2 := by
          intro j hj
          obtain ⟨_, hp⟩ := rd_get l j l[j] (List.getElem?_eq_getElem hj)
          rw [hp]
          have hq := hr.2 j _ (List.getElem?_eq_getElem hj)
          obtain ⟨u, hu, hR⟩ := k25_openM hq
          have hs : ∀ i : Nat, i < 3 → cur[j * 3 + i]? = ([Value.bool l[j].f0, .string l[j].f1, u] : List Value)[i]? := by
            intro i hi
            have hlt : j * 3 + i < l.length * 3 := by
              have : (j + 1) * 3 ≤ l.length * 3 := Nat.mul_le_mul_right _ hj
              omega
            have e1 : cur.toList.take (l.length * 3) = inner := ht
            have e2 : (inner.drop (j * 3)).take 3 = [Value.bool l[j].f0, .string l[j].f1, u] := hu
            rw [← e2, List.getElem?_take_of_lt hi, List.getElem?_drop, ← e1, List.getElem?_take_of_lt hlt, Array.getElem?_toList]
          have hsz : szL l[j].f2 < n := by
            have h5 := szL_mem l l[j] (List.getElem_mem hj)
            have h6 : szT l[j] = szL l[j].f2 + 1 := by cases l[j]; simp [szT]
            omega
          exact ⟨u, hs 0 (by omega), hs 1 (by omega), hs 2 (by omega), (WT_of_R (n - 1) _ w base _ u (by omega) hR).mono (fun k hk => ⟨hk.1.1, hk.2⟩)⟩
        refine .row g cap cur l (fun j => (cur[j * 3 + 2]?).getD undef) h3 ⟨h0 g rfl, hg⟩ hb hl (by simpa [maxLen] using hm) hz (fun j hj => (hel j hj).choose_spec.1) (fun j hj => (hel j hj).choose_spec.2.1) (fun j hj => ?_) (fun j hj => ?_)
        · obtain ⟨u, _, _, h7, _⟩ := hel j hj
          rw [h7]
          rfl
        · obtain ⟨u, _, _, h7, h8⟩ := hel j hj
          rw [h7]
          exact h8
  termination_by n => n
  decreasing_by
    have := szT_pos (l[j])
    have h5 := szL_mem l l[j] (List.getElem_mem hj)
    omega

/-! ### A row of such trees under construction (append) -/
def RowW (w : World) (base : Nat) (v : Value) (ys : List S25) : Prop :=
  ∃ (inner : List Value) (vs : Nat → Value), w.ownsRow base 25 3 v ys.length inner ∧ ∀ j, j < ys.length → inner[j * 3]? = some (.bool (rd_T25 ys (j : Int)).f0) ∧ inner[j * 3 + 1]? = some (.string (rd_T25 ys (j : Int)).f1) ∧ inner[j * 3 + 2]? = some (vs j) ∧ WT w (fun k => base ≤ k ∧ some k ≠ v.ownBlock) (vs j) (rd_T25 ys (j : Int)).f2
theorem RowW.nil (w : World) (base : Nat) : RowW w base (.slice none 0 0) [] := ⟨[], fun _ => undef, World.ownsRow_nil _ _ _ _, fun j hj => absurd hj (by simp)⟩
theorem RowW.step {w w1 : World} {base : Nat} {v : Value} {ys : List S25} (h : RowW w base v ys) (hm : ∀ k, base ≤ k → k < w.heap.size → w1.heap[k]? = w.heap[k]?) : RowW w1 base v ys := by
  obtain ⟨inner, vs, hrow, hel⟩ := h
  exact ⟨inner, vs, own_move hrow (fun k hk => hm k (own_base hrow k hk) (own_lt hrow k hk)), fun j hj => ⟨(hel j hj).1, (hel j hj).2.1, (hel j hj).2.2.1, (hel j hj).2.2.2.step (fun k hk hlt => hm k hk.1 hlt)⟩⟩
theorem RowW.later {w w1 : World} {base : Nat} {v : Value} {ys : List S25} (h : RowW w base v ys) (hb : Below w.heap.size w w1) : RowW w1 base v ys := h.step (fun k _ hk => hb.block k hk)
theorem RowW.far {w : World} {base : Nat} {v : Value} {ys : List S25} (h : RowW w base v ys) (p : Addr) (u : Value) (hp : p.block < base) : RowW (w.setCell p u) base v ys := h.step (fun k hk _ => Below.heap_setCell w p u k (by omega))
theorem rd_left (ys : List S25) (x : S25) (j : Nat) (hj : j < ys.length) : rd_T25 (ys ++ [x]) (j : Int) = rd_T25 ys (j : Int) := by
  unfold rd_T25
  simp only [Int.toNat_natCast]
  rw [List.getD_eq_getElem?_getD, List.getD_eq_getElem?_getD, List.getElem?_append_left hj]
theorem rd_last (ys : List S25) (x : S25) : rd_T25 (ys ++ [x]) (ys.length : Int) = x := by
  unfold rd_T25
  simp only [Int.toNat_natCast]
  rw [List.getD_eq_getElem?_getD, List.getElem?_append_right (Nat.le_refl _)]
  simp
theorem RowW.next {w w3 : World} {base g cap : Nat} {v u : Value} {ys : List S25} {x : S25} {inner : List Value} {vs : Nat → Value} (hrow : w.ownsRow base 25 3 v ys.length inner)
    (hel : ∀ j, j < ys.length → inner[j * 3]? = some (.bool (rd_T25 ys (j : Int)).f0) ∧ inner[j * 3 + 1]? = some (.string (rd_T25 ys (j : Int)).f1) ∧ inner[j * 3 + 2]? = some (vs j) ∧ WT w (fun k => base ≤ k ∧ some k ≠ v.ownBlock) (vs j) (rd_T25 ys (j : Int)).f2)
    (hu : WT w (fun k => base ≤ k ∧ some k ≠ v.ownBlock) u x.f2) (hown : w3.ownsRow base 25 3 (.slice (some ⟨g, 0, none⟩) (ys.length + 1) cap) (ys.length + 1) (inner ++ [.bool x.f0, .string x.f1, u]))
    (hgr : w.grownBy w3 v.ownBlock) (hat : v.ownBlock = some g ∨ g = w.heap.size) : RowW w3 base (.slice (some ⟨g, 0, none⟩) (ys.length + 1) cap) (ys ++ [x]) := by
  have hil : inner.length = ys.length * 3 := hrow.1
  have hmv : ∀ {z : Value} {l : List S25}, WT w (fun k => base ≤ k ∧ some k ≠ v.ownBlock) z l → WT w3 (fun k => base ≤ k ∧ some k ≠ (Value.slice (some ⟨g, 0, none⟩) (ys.length + 1) cap).ownBlock) z l := by
    intro z l h
    refine (h.bound.step (fun k hk hlt => hgr.block k hlt hk.1.2)).mono (fun k hk => ⟨hk.1.1, fun he => ?_⟩)
    have hkg : k = g := by simpa [Value.ownBlock] using he
    subst hkg
    rcases hat with hat | hat
    · exact hk.1.2 hat.symm
    · have := hk.2; omega
  refine ⟨inner ++ [.bool x.f0, .string x.f1, u], fun j => if j = ys.length then u else vs j, by simpa using hown, fun j hj => ?_⟩
  rw [List.length_append, List.length_singleton] at hj
  by_cases hje : j = ys.length
  · subst hje
    simp only [if_true]
    rw [rd_last]
    refine ⟨?_, ?_, ?_, hmv hu⟩
    · rw [List.getElem?_append_right (by omega), hil, Nat.sub_self]; rfl
    · rw [List.getElem?_append_right (by omega), hil, Nat.add_sub_cancel_left]; rfl
    · rw [List.getElem?_append_right (by omega), hil, Nat.add_sub_cancel_left]; rfl
  · have hj2 : j < ys.length := by omega
    obtain ⟨q0, q1, q2, q3⟩ := hel j hj2
    simp only [if_neg hje]
    rw [rd_left _ _ _ hj2]
    have : (j + 1) * 3 ≤ ys.length * 3 := Nat.mul_le_mul_right _ hj2
    exact ⟨by rw [List.getElem?_append_left (by omega)]; exact q0, by rw [List.getElem?_append_left (by omega)]; exact q1, by rw [List.getElem?_append_left (by omega)]; exact q2, hmv q3⟩
theorem own_later {w w1 : World} {base n : Nat} {e : TypeId} {size : Nat} {v : Value} {xs : List Value} (h : w.ownsRow base e size v n xs) (hb : Below w.heap.size w w1) : w1.ownsRow base e size v n xs := own_move h (fun k hk => hb.block k (own_lt h k hk))
theorem RowW.tree {w : World} {base : Nat} {v : Value} {ys : List S25} (h : RowW w base v ys) : WT w (fun k => base ≤ k) v ys := by
  obtain ⟨inner, vs, ⟨h1, h2⟩, hel⟩ := h
  rcases h2 with ⟨rfl, h2⟩ | ⟨g, cap, cur, rfl, hg, hb, hl, hm, hz, ht⟩
  · obtain rfl := List.length_eq_zero_iff.1 h2
    exact .nil _ _
  · rcases Nat.eq_zero_or_pos ys.length with h3 | h3
    · obtain rfl := List.length_eq_zero_iff.1 h3
      exact .nil _ _
    · have hs : ∀ j i, j < ys.length → i < 3 → cur[j * 3 + i]? = inner[j * 3 + i]? := by
        intro j i hj hi
        have hlt : j * 3 + i < ys.length * 3 := by
          have : (j + 1) * 3 ≤ ys.length * 3 := Nat.mul_le_mul_right _ hj
          omega
        rw [← ht, List.getElem?_take_of_lt hlt, Array.getElem?_toList]
      exact .row g cap cur ys vs h3 hg hb hl (by simpa [maxLen] using hm) hz (fun j hj => (hs j 0 hj (by omega)).trans (hel j hj).1) (fun j hj => (hs j 1 hj (by omega)).trans (hel j hj).2.1) (fun j hj => (hs j 2 hj (by omega)).trans (hel j hj).2.2.1) (fun j hj => (hel j hj).2.2.2.mono (fun k hk => hk.1))

end Go.Proofs.Ytgnklkmifcmlhaa.Q
