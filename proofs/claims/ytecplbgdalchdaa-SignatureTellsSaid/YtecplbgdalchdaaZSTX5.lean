/- Proved here: parts of the proof of a given statement (HRowSignatureTells): contracts of the functions that it reaches, what they answer, and in the last text the statement itself. Conditions: those that each theorem names. -/
import Derived.Test.YtecplbgdalchdaaZSTX4
import Derived.ChangeMaps4
import Derived.Carry
/- Proved here: maps of simple keys, told by a list of keys and values: made, looked up, updated. Conditions: those that each theorem names. -/
namespace Go.Proofs.Ytecplbgdalchdaa.Q
open Go.RowKit Go.MapKept Go.Proofs.YtecplbgdalchdaaW.PrintWords Go.Proofs.YtecplbgdalchdaaW.PrintMore
set_option linter.unusedVariables false
set_option linter.unusedSimpArgs false

section
variable {κ : Type}
/-- Block b is a map that holds l (in the order in which its keys came). -/
def MapIs (enc : κ → Value) (w : World) (b : Nat) (l : List (κ × Value)) : Prop :=
  ∃ (es : Array MapEntry) (clock : Nat), w.heap[b]? = some (.map es clock) ∧ es.toList.map (fun e => (e.key, e.val)) = l.map (fun p => (enc p.1, p.2))
variable {enc : κ → Value} {w w1 : World} {b : Nat} {l : List (κ × Value)}
theorem MapIs.step (h : MapIs enc w b l) (hb : w1.heap[b]? = w.heap[b]?) : MapIs enc w1 b l := by
  obtain ⟨es, c, h1, h2⟩ := h
  exact ⟨es, c, hb.trans h1, h2⟩
theorem MapIs.lt (h : MapIs enc w b l) : b < w.heap.size := by
  obtain ⟨es, c, h1, _⟩ := h
  exact (Array.getElem?_eq_some_iff.1 h1).1
theorem MapIs.later (h : MapIs enc w b l) (hb : Below w.heap.size w w1) : MapIs enc w1 b l := h.step (hb.block _ h.lt)
theorem MapIs.new (enc : κ → Value) (w : World) : MapIs enc (w.alloc (.map #[] 0)) w.heap.size [] := ⟨#[], 0, (heap_alloc w _).1, rfl⟩
end
section
variable {κ : Type} [DecidableEq κ]
/-- What a key leads to. -/
def lookM (s : κ) : List (κ × Value) → Option Value
  | [] => none
  | p :: l => if p.1 = s then some p.2 else lookM s l
def putM (s : κ) (v : Value) : List (κ × Value) → List (κ × Value)
  | [] => [(s, v)]
  | p :: l => if p.1 = s then (s, v) :: l else p :: putM s v l
variable {enc : κ → Value} {d : TypeDesc} {P : Program} {w w1 : World} {b : Nat} {l : List (κ × Value)}
theorem find_enc (hk : ∀ a, IsKey d (enc a)) (hi : ∀ a c, enc a = enc c → a = c) (s : κ) : ∀ (es : List MapEntry) (l : List (κ × Value)) (i : Nat), es.map (fun e => (e.key, e.val)) = l.map (fun p => (enc p.1, p.2)) →
    (lookM s l = none ∧ Instr.findNow d (enc s) es i = some none ∧ ∀ v, (l.map (fun p => (enc p.1, p.2))) ++ [(enc s, v)] = (putM s v l).map (fun p => (enc p.1, p.2))) ∨
    ∃ (j : Nat) (e : MapEntry), lookM s l = some e.val ∧ Instr.findNow d (enc s) es i = some (some (i + j, e.val)) ∧ es[j]? = some e ∧ e.key = enc s ∧ ∀ v, (l.map (fun p => (enc p.1, p.2))).set j (enc s, v) = (putM s v l).map (fun p => (enc p.1, p.2))
  | [], [], i, _ => .inl ⟨rfl, rfl, fun v => rfl⟩
  | [], _ :: _, i, h => by simp at h
  | _ :: _, [], i, h => by simp at h
  | e :: es, p :: l, i, h => by
    simp only [List.map_cons, List.cons.injEq, Prod.mk.injEq] at h
    obtain ⟨⟨h1, h2⟩, h3⟩ := h
    obtain ⟨r, hr, hiff⟩ := sameNow_of_keys (hk s) (show IsKey d e.key by rw [h1]; exact hk p.1)
    cases r with
    | true =>
      have he := hiff.1 rfl
      have hp : p.1 = s := hi _ _ (by rw [← h1, he])
      refine .inr ⟨0, e, by simp [lookM, hp, h2], by simp [Instr.findNow, hr], rfl, he.symm, fun v => ?_⟩
      simp [putM, hp]
    | false =>
      have hne : ¬ p.1 = s := fun hp => by
        have := hiff.2 (by rw [h1, hp])
        cases this
      rcases find_enc hk hi s es l (i + 1) h3 with ⟨g1, g2, g3⟩ | ⟨j, e', g1, g2, g3, g4, g5⟩
      · refine .inl ⟨by simp [lookM, hne, g1], by simp [Instr.findNow, hr, g2], fun v => ?_⟩
        rw [putM, if_neg hne, List.map_cons, List.map_cons, List.cons_append, g3 v]
      · refine .inr ⟨j + 1, e', by simp [lookM, hne, g1], by simp [Instr.findNow, hr, g2]; omega, by simpa using g3, g4, fun v => ?_⟩
        rw [putM, if_neg hne, List.map_cons, List.map_cons, List.set_cons_succ, g5 v]
theorem run_look {t k e : TypeId} {z : Value} (ht : P.underlying t = some (.map k e)) (hd : P.underlying k = some d) (hk : ∀ a, IsKey d (enc a)) (hi : ∀ a c, enc a = enc c → a = c) (hz : (zeroValue e).run P w = .ok z w) (h : MapIs enc w b l) (s : κ) (ok : Bool) :
    (Instr.lookup t (.map (some b)) (enc s) ok).run P w = .ok (if ok = true then .tuple #[(lookM s l).getD z, .bool (lookM s l).isSome] else (lookM s l).getD z) w := by
  obtain ⟨es, clock, hb, hl⟩ := h
  rcases find_enc hk hi s es.toList l 0 hl with ⟨g1, g2, _⟩ | ⟨j, e', g1, g2, g3, _⟩
  · rw [g1]
    simp [Instr.lookup, run_underlying ht, Go.MapKept.run_getObj_map hb, Go.MapKept.run_checkKey hd (hk s), Go.MapKept.run_findKey hd g2, hz, Result.andThen]
  · rw [g1]
    simp [Instr.lookup, run_underlying ht, Go.MapKept.run_getObj_map hb, Go.MapKept.run_checkKey hd (hk s), Go.MapKept.run_findKey hd g2, Result.andThen]
theorem run_put {t k e : TypeId} (ht : P.underlying t = some (.map k e)) (hd : P.underlying k = some d) (hk : ∀ a, IsKey d (enc a)) (hi : ∀ a c, enc a = enc c → a = c) (hs : ∀ (a c : κ) (q : World), a = c → (Instr.keyThatStays (enc a) (enc c)).run P q = .ok (enc c) q) (h : MapIs enc w b l) (s : κ) (v : Value) :
    ∃ o, (Instr.mapUpdate t (.map (some b)) (enc s) v).run P w = .ok () { w with heap := w.heap.setIfInBounds b o } ∧ MapIs enc { w with heap := w.heap.setIfInBounds b o } b (putM s v l) := by
  have hlt := h.lt
  obtain ⟨es, clock, hb, hl⟩ := h
  rcases find_enc hk hi s es.toList l 0 hl with ⟨g1, g2, g3⟩ | ⟨j, e', g1, g2, g3, g4, g5⟩
  · refine ⟨.map (es.push ⟨enc s, v, clock⟩) (clock + 1), ?_, _, _, (heap_set hb).1, ?_⟩
    · simp [Instr.mapUpdate, run_underlying ht, Go.MapKept.run_getObj_map hb, Go.MapKept.run_checkKey hd (hk s), Go.MapKept.run_findKey hd g2, Go.MapKept.run_setObj_map _ hb, Result.andThen]
    · rw [Array.toList_push, List.map_append, hl]
      exact g3 v
  · have hj : es[j]? = some e' := by simpa using g3
    refine ⟨.map (es.modify j (fun e' => { e' with key := enc s, val := v })) clock, ?_, _, _, (heap_set hb).1, ?_⟩
    · have hst := hs s s
      simp only [Nat.zero_add] at g2
      simp [Instr.mapUpdate, run_underlying ht, Go.MapKept.run_getObj_map hb, Go.MapKept.run_checkKey hd (hk s), Go.MapKept.run_findKey hd g2, hj, g4, hst, Go.MapKept.run_setObj_map _ hb, Result.andThen]
    · rw [← g5 v, ← hl]
      apply List.ext_getElem?
      intro i
      simp only [List.getElem?_map, Array.getElem?_toList, List.getElem?_set, Array.getElem?_modify, List.length_map, Array.length_toList]
      by_cases hij : j = i
      · subst hij
        rw [if_pos rfl, if_pos rfl, hj]
        simp [(Array.getElem?_eq_some_iff.1 hj).1]
      · rw [if_neg hij, if_neg hij]
end
end Go.Proofs.Ytecplbgdalchdaa.Q
/- Proved here: keys of maps. Conditions: those that each theorem names. -/
namespace Go.Proofs.Ytecplbgdalchdaa.Q
open Go.RowKit Go.MapKept Go.Proofs.YtecplbgdalchdaaW.PrintWords Go.Proofs.YtecplbgdalchdaaW.PrintMore
set_option linter.unusedVariables false
set_option linter.unusedSimpArgs false

instance baDec : DecidableEq ByteArray := fun a b => decidable_of_iff (a.data = b.data) ⟨fun h => ByteArray.ext h, fun h => by rw [h]⟩
instance memDec (n : ByteArray) (l : List ByteArray) : Decidable (n ∈ l) := decidable_of_iff (l.any (fun a => decide (a = n)) = true) (by simp)
def addS (n : ByteArray) (l : List ByteArray) : List ByteArray := if n ∈ l then l else l ++ [n]
def encS (n : ByteArray) : Value := .string n
theorem keyS : ∀ a, IsKey .string (encS a) := fun _ => trivial
theorem injS : ∀ a c, encS a = encS c → a = c := fun a c h => Value.string.inj h
theorem strU : Try.prog.underlying 9 = some .string := by kernel_rfl
end Go.Proofs.Ytecplbgdalchdaa.Q
/- Proved here: all but one block stays. Conditions: those that each theorem names. -/
namespace Go.Proofs.Ytecplbgdalchdaa.Q
open Go.RowKit Go.Shelf Go.Proofs.YtecplbgdalchdaaW.PrintWords Go.Proofs.YtecplbgdalchdaaW.PrintMore
set_option linter.unusedVariables false
set_option linter.unusedSimpArgs false

/-- All but block m stays. -/
structure But (m : Nat) (w w' : World) : Prop where
  os : w'.os = w.os
  tape : w'.tape = w.tape
  output : w'.output = w.output
  size : w.heap.size ≤ w'.heap.size
  block : ∀ k, k < w.heap.size → k ≠ m → w'.heap[k]? = w.heap[k]?
theorem But.of {m : Nat} {w w' : World} (h : Below w.heap.size w w') : But m w w' := ⟨h.os, h.tape, h.output, h.size, fun k hk _ => h.block k hk⟩
theorem But.trans {m : Nat} {w w1 w2 : World} (h : But m w w1) (g : But m w1 w2) : But m w w2 :=
  ⟨g.os.trans h.os, g.tape.trans h.tape, g.output.trans h.output, Nat.le_trans h.size g.size, fun k hk hm => (g.block k (Nat.lt_of_lt_of_le hk h.size) hm).trans (h.block k hk hm)⟩
theorem But.put (m : Nat) (w : World) (o : Obj) : But m w { w with heap := w.heap.setIfInBounds m o } :=
  ⟨rfl, rfl, rfl, by simp, fun k hk hm => by
    show (w.heap.setIfInBounds m o)[k]? = w.heap[k]?
    rw [Array.getElem?_setIfInBounds_ne (Ne.symm hm)]⟩
theorem But.below {base m : Nat} {v w w' : World} (h : Below base v w) (g : But m w w') (hb : base ≤ m) (hv : base ≤ v.heap.size) : Below base v w' :=
  ⟨g.os.trans h.os, g.tape.trans h.tape, g.output.trans h.output, Nat.le_trans h.size g.size, fun k hk => (g.block k (Nat.lt_of_lt_of_le hk (Nat.le_trans hv h.size)) (by omega)).trans (h.block k hk)⟩

theorem two_new (w : World) (o p : Obj) : Below w.heap.size w ((w.alloc o).alloc p) ∧ ((w.alloc o).alloc p).heap[w.heap.size]? = some o ∧ ((w.alloc o).alloc p).heap[w.heap.size + 1]? = some p :=
  ⟨(below_one o).alloc (Nat.le_of_lt (blk_lt (blk_new w o))) p, blk_below (blk_new w o) (below_one p), by simpa using blk_new (w.alloc o) p⟩
end Go.Proofs.Ytecplbgdalchdaa.Q
