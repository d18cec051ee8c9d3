/- Proved here: rows of bindings under construction (append), each binding's type being a tree of the call's own. Conditions: those that each theorem names. -/
import Derived.Test.YtgnklkmifcmlhaaHTree
import Derived.Maps.AppendAt
namespace Go.Proofs.Ytgnklkmifcmlhaa.Q
open Go.RowKit Go.Proofs.YtgnklkmifcmlhaaW.PrintWords Go.Proofs.YtgnklkmifcmlhaaW.PrintMore
set_option linter.unusedVariables false
set_option linter.unusedSimpArgs false

def RowB (w : World) (base : Nat) (v : Value) (ys : List S59) : Prop :=
  ∃ (inner : List Value) (vs : Nat → Value), w.ownsRow base 59 4 v ys.length inner ∧ ∀ j x, ys[j]? = some x → inner[j * 4]? = some (.string x.f0) ∧ inner[j * 4 + 1]? = some (.bool x.f1.f0) ∧ inner[j * 4 + 2]? = some (.string x.f1.f1) ∧ inner[j * 4 + 3]? = some (vs j) ∧ WT w (fun k => base ≤ k ∧ some k ≠ v.ownBlock) (vs j) x.f1.f2
theorem RowB.nil (w : World) (base : Nat) : RowB w base (.slice none 0 0) [] := ⟨[], fun _ => undef, World.ownsRow_nil _ _ _ _, fun j x hj => by simp at hj⟩
/-- An empty row that is owned (make). -/
theorem RowB.empty {w : World} {base : Nat} {v : Value} (h : w.ownsRow base 59 4 v 0 []) : RowB w base v [] := ⟨[], fun _ => undef, h, fun j x hj => by simp at hj⟩
theorem RowB.step {w w1 : World} {base : Nat} {v : Value} {ys : List S59} (h : RowB w base v ys) (hm : ∀ k, base ≤ k → k < w.heap.size → w1.heap[k]? = w.heap[k]?) : RowB w1 base v ys := by
  obtain ⟨inner, vs, hrow, hel⟩ := h
  exact ⟨inner, vs, own_move hrow (fun k hk => hm k (own_base hrow k hk) (own_lt hrow k hk)), fun j x hj => ⟨(hel j x hj).1, (hel j x hj).2.1, (hel j x hj).2.2.1, (hel j x hj).2.2.2.1, (hel j x hj).2.2.2.2.step (fun k hk hlt => hm k hk.1 hlt)⟩⟩
theorem RowB.later {w w1 : World} {base : Nat} {v : Value} {ys : List S59} (h : RowB w base v ys) (hb : Below w.heap.size w w1) : RowB w1 base v ys := h.step (fun k _ hk => hb.block k hk)
theorem RowB.slice {w : World} {base : Nat} {v : Value} {ys : List S59} (h : RowB w base v ys) : ∃ A c, v = .slice A ys.length c := by
  obtain ⟨_, _, h, _⟩ := h
  exact own_slice h
theorem RowB.next {w w3 : World} {base g cap : Nat} {v u : Value} {ys : List S59} {x : S59} {inner : List Value} {vs : Nat → Value} (hrow : w.ownsRow base 59 4 v ys.length inner)
    (hel : ∀ j x, ys[j]? = some x → inner[j * 4]? = some (.string x.f0) ∧ inner[j * 4 + 1]? = some (.bool x.f1.f0) ∧ inner[j * 4 + 2]? = some (.string x.f1.f1) ∧ inner[j * 4 + 3]? = some (vs j) ∧ WT w (fun k => base ≤ k ∧ some k ≠ v.ownBlock) (vs j) x.f1.f2)
    (hu : WT w (fun k => base ≤ k ∧ some k ≠ v.ownBlock) u x.f1.f2) (hown : w3.ownsRow base 59 4 (.slice (some ⟨g, 0, none⟩) (ys.length + 1) cap) (ys.length + 1) (inner ++ [.string x.f0, .bool x.f1.f0, .string x.f1.f1, u]))
    (hgr : w.grownBy w3 v.ownBlock) (hat : v.ownBlock = some g ∨ g = w.heap.size) : RowB w3 base (.slice (some ⟨g, 0, none⟩) (ys.length + 1) cap) (ys ++ [x]) := by
  have hil : inner.length = ys.length * 4 := hrow.1
  have hmv : ∀ {z : Value} {l : List S25}, WT w (fun k => base ≤ k ∧ some k ≠ v.ownBlock) z l → WT w3 (fun k => base ≤ k ∧ some k ≠ (Value.slice (some ⟨g, 0, none⟩) (ys.length + 1) cap).ownBlock) z l := by
    intro z l h
    refine (h.bound.step (fun k hk hlt => hgr.block k hlt hk.1.2)).mono (fun k hk => ⟨hk.1.1, fun he => ?_⟩)
    have hkg : k = g := by simpa [Value.ownBlock] using he
    subst hkg
    rcases hat with hat | hat
    · exact hk.1.2 hat.symm
    · have := hk.2; omega
  refine ⟨inner ++ [.string x.f0, .bool x.f1.f0, .string x.f1.f1, u], fun j => if j = ys.length then u else vs j, by simpa using hown, fun j y hj => ?_⟩
  have hjl : j < (ys ++ [x]).length := (List.getElem?_eq_some_iff.1 hj).1
  rw [List.length_append, List.length_singleton] at hjl
  by_cases hje : j = ys.length
  · subst hje
    simp only [if_true]
    rw [List.getElem?_append_right (Nat.le_refl _), Nat.sub_self] at hj
    simp only [List.getElem?_cons_zero, Option.some.injEq] at hj
    rw [← hj]
    refine ⟨?_, ?_, ?_, ?_, hmv hu⟩
    · rw [List.getElem?_append_right (by omega), hil, Nat.sub_self]; rfl
    · rw [List.getElem?_append_right (by omega), hil, Nat.add_sub_cancel_left]; rfl
    · rw [List.getElem?_append_right (by omega), hil, Nat.add_sub_cancel_left]; rfl
    · rw [List.getElem?_append_right (by omega), hil, Nat.add_sub_cancel_left]; rfl
  · have hj2 : j < ys.length := by omega
    rw [List.getElem?_append_left hj2] at hj
    obtain ⟨q0, q1, q2, q3, q4⟩ := hel j y hj
    simp only [if_neg hje]
    have : (j + 1) * 4 ≤ ys.length * 4 := Nat.mul_le_mul_right _ hj2
    exact ⟨by rw [List.getElem?_append_left (by omega)]; exact q0, by rw [List.getElem?_append_left (by omega)]; exact q1, by rw [List.getElem?_append_left (by omega)]; exact q2, by rw [List.getElem?_append_left (by omega)]; exact q3, hmv q4⟩
/-- As what is read. -/
theorem RowB.reads {w : World} {base : Nat} {v : Value} {ys : List S59} (h : RowB w base v ys) : ∃ A c, v = .slice A ys.length c ∧ ys.length ≤ c ∧ k59.C w A ys.length ys := by
  obtain ⟨inner, vs, ⟨h1, h2⟩, hel⟩ := h
  rcases h2 with ⟨rfl, h2⟩ | ⟨g, cap, cur, rfl, hg, hb, hl, hm, hz, ht⟩
  · obtain rfl := List.length_eq_zero_iff.1 h2
    exact ⟨none, 0, rfl, Nat.le_refl _, rfl, by simp, fun h => absurd h (by simp)⟩
  · have hcm : cap ≤ 9223372036854775807 := by simpa [maxLen] using hm
    refine ⟨_, _, rfl, hl, rfl, by omega, fun _ => ⟨_, rfl, fun j p hj => ?_⟩⟩
    have hjl : j < ys.length := (List.getElem?_eq_some_iff.1 hj).1
    obtain ⟨q0, q1, q2, q3, q4⟩ := hel j p hj
    obtain ⟨A, c, hv, hlc, hC⟩ := q4.reads
    rw [hv] at q3
    have hs : ∀ i, i < 4 → cur[j * 4 + i]? = inner[j * 4 + i]? := by
      intro i hi
      have hlt : j * 4 + i < ys.length * 4 := by
        have : (j + 1) * 4 ≤ ys.length * 4 := Nat.mul_le_mul_right _ hjl
        omega
      rw [← ht, List.getElem?_take_of_lt hlt, Array.getElem?_toList]
    refine ⟨[.string p.f0, .bool p.f1.f0, .string p.f1.f1, .slice A p.f1.f2.length c], rfl, k59_mk w p hlc hC, fun i u hu => ?_⟩
    show w.cell? (Addr.add ⟨g, 0, none⟩ (j * 4 + i)) = some u
    rw [add_zero_spot, blk_cell hb]
    match i, hu with
    | 0, hu => exact ((hs 0 (by omega)).trans q0).trans hu
    | 1, hu => exact ((hs 1 (by omega)).trans q1).trans hu
    | 2, hu => exact ((hs 2 (by omega)).trans q2).trans hu
    | 3, hu => exact ((hs 3 (by omega)).trans q3).trans hu
    | i + 4, hu => simp at hu
theorem RowB.V {w : World} {base : Nat} {v : Value} {ys : List S59} (h : RowB w base v ys) : Kd.V k59 59 w base (fun k => base ≤ k) v ys := by
  obtain ⟨A, c, rfl, hl, hC⟩ := h.reads
  refine ⟨A, c, rfl, hl, fun W' hW => ?_⟩
  obtain ⟨A', c', he, _, hC'⟩ := (h.step (w1 := W') hW).reads
  injection he with ha _ _
  rw [ha]
  exact hC'
end Go.Proofs.Ytgnklkmifcmlhaa.Q
