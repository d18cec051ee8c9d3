/- Proved here: parts of the proof of a given statement (HRowPrinterTypes): contracts of the functions that it reaches, what they answer, and in the last text the statement itself. Conditions: those that each theorem names. -/
import Derived.Test.YtgnklkmifcmlhaaZPTX4
import Derived.ChangeMaps4
import Derived.Carry
/- Proved here: maps of simple keys, told by a list of keys and values: made, looked up, updated. Conditions: those that each theorem names. -/
namespace Go.Proofs.Ytgnklkmifcmlhaa.Q
open Go.RowKit Go.MapKept Go.Proofs.YtgnklkmifcmlhaaW.PrintWords Go.Proofs.YtgnklkmifcmlhaaW.PrintMore
set_option linter.unusedVariables false
set_option linter.unusedSimpArgs false

section
variable {κ : Type}
/-- Block b is a map that holds l (in the order in which its keys came). -/
def MapIs (enc : κ → Value) (w : World) (b : Nat) (l : List (κ × Value)) : Prop :=
  ∃ (es : Array MapEntry) (clock : Nat), w.heap[b]? = some (.map es clock) ∧ es.toList.map (fun e => (e.key, e.val)) = l.map (fun p => (enc p.1, p.2))
variable {enc : κ → Value} {w w1 : World} {b : Nat} {l : List (κ × Value)}
theorem MapIs.step (h : MapIs enc w b l) (hb : w1.heap[b]? = w.heap[b]?) : MapIs enc w1 b l := by
  obtain ⟨es, c, h1, h2⟩ := h
  exact ⟨es, c, hb.trans h1, h2⟩
theorem MapIs.lt (h : MapIs enc w b l) : b < w.heap.size := by
  obtain ⟨es, c, h1, _⟩ := h
  exact (Array.getElem?_eq_some_iff.1 h1).1
theorem MapIs.later (h : MapIs enc w b l) (hb : Below w.heap.size w w1) : MapIs enc w1 b l := h.step (hb.block _ h.lt)
theorem MapIs.new (enc : κ → Value) (w : World) : MapIs enc (w.alloc (.map #[] 0)) w.heap.size [] := ⟨#[], 0, (heap_alloc w _).1, rfl⟩
end
section
variable {κ : Type} [DecidableEq κ]
/-- What a key leads to. -/
def lookM (s : κ) : List (κ × Value) → Option Value
  | [] => none
  | p :: l => if p.1 = s then some p.2 else lookM s l
def putM (s : κ) (v : Value) : List (κ × Value) → List (κ × Value)
  | [] => [(s, v)]
  | p :: l => if p.1 = s then (s, v) :: l else p :: putM s v l
variable {enc : κ → Value} {d : TypeDesc} {P : Program} {w w1 : World} {b : Nat} {l : List (κ × Value)}
theorem find_enc (hk : ∀ a, IsKey d (enc a)) (hi : ∀ a c, enc a = enc c → a = c) (s : κ) : ∀ (es : List MapEntry) (l : List (κ × Value)) (i : Nat), es.map (fun e => (e.key, e.val)) = l.map (fun p => (enc p.1, p.2)) →
    (lookM s l = none ∧ Instr.findNow d (enc s) es i = some none ∧ ∀ v, (l.map (fun p => (enc p.1, p.2))) ++ [(enc s, v)] = (putM s v l).map (fun p => (enc p.1, p.2))) ∨
    ∃ (j : Nat) (e : MapEntry), lookM s l = some e.val ∧ Instr.findNow d (enc s) es i = some (some (i + j, e.val)) ∧ es[j]? = some e ∧ e.key = enc s ∧ ∀ v, (l.map (fun p => (enc p.1, p.2))).set j (enc s, v) = (putM s v l).map (fun p => (enc p.1, p.2))
  | [], [], i, _ => .inl ⟨rfl, rfl, fun v => rfl⟩
  | [], _ :: _, i, h => by simp at h
  | _ :: _, [], i, h => by simp at h
  | e :: es, p :: l, i, h => by
    simp only [List.map_cons, List.cons.injEq, Prod.mk.injEq] at h
    obtain ⟨⟨h1, h2⟩, h3⟩ := h
    obtain ⟨r, hr, hiff⟩ := sameNow_of_keys (hk s) (show IsKey d e.key by rw [h1]; exact hk p.1)
    cases r with
    | true =>
      have he := hiff.1 rfl
      have hp : p.1 = s := hi _ _ (by rw [← h1, he])
      refine .inr ⟨0, e, by simp [lookM, hp, h2], by simp [Instr.findNow, hr], rfl, he.symm, fun v => ?_⟩
      simp [putM, hp]
    | false =>
      have hne : ¬ p.1 = s := fun hp => by
        have := hiff.2 (by rw [h1, hp])
        cases this
      rcases find_enc hk hi s es l (i + 1) h3 with ⟨g1, g2, g3⟩ | ⟨j, e', g1, g2, g3, g4, g5⟩
      · refine .inl ⟨by simp [lookM, hne, g1], by simp [Instr.findNow, hr, g2], fun v => ?_⟩
        rw [putM, if_neg hne, List.map_cons, List.map_cons, List.cons_append, g3 v]
      · refine .inr ⟨j + 1, e', by simp [lookM, hne, g1], by simp [Instr.findNow, hr, g2]; omega, by simpa using g3, g4, fun v => ?_⟩
        rw [putM, if_neg hne, List.map_cons, List.map_cons, List.set_cons_succ, g5 v]
theorem run_look {t k e : TypeId} {z : Value} (ht : P.underlying t = some (.map k e)) (hd : P.underlying k = some d) (hk : ∀ a, IsKey d (enc a)) (hi : ∀ a c, enc a = enc c → a = c) (hz : (zeroValue e).run P w = .ok z w) (h : MapIs enc w b l) (s : κ) (ok : Bool) :
    (Instr.lookup t (.map (some b)) (enc s) ok).run P w = .ok (if ok = true then .tuple #[(lookM s l).getD z, .bool (lookM s l).isSome] else (lookM s l).getD z) w := by
  obtain ⟨es, clock, hb, hl⟩ := h
  rcases find_enc hk hi s es.toList l 0 hl with ⟨g1, g2, _⟩ | ⟨j, e', g1, g2, g3, _⟩
  · rw [g1]
    simp [Instr.lookup, run_underlying ht, Go.MapKept.run_getObj_map hb, Go.MapKept.run_checkKey hd (hk s), Go.MapKept.run_findKey hd g2, hz, Result.andThen]
  · rw [g1]
    simp [Instr.lookup, run_underlying ht, Go.MapKept.run_getObj_map hb, Go.MapKept.run_checkKey hd (hk s), Go.MapKept.run_findKey hd g2, Result.andThen]
theorem run_put {t k e : TypeId} (ht : P.underlying t = some (.map k e)) (hd : P.underlying k = some d) (hk : ∀ a, IsKey d (enc a)) (hi : ∀ a c, enc a = enc c → a = c) (hs : ∀ (a c : κ) (q : World), a = c → (Instr.keyThatStays (enc a) (enc c)).run P q = .ok (enc c) q) (h : MapIs enc w b l) (s : κ) (v : Value) :
    ∃ o, (Instr.mapUpdate t (.map (some b)) (enc s) v).run P w = .ok () { w with heap := w.heap.setIfInBounds b o } ∧ MapIs enc { w with heap := w.heap.setIfInBounds b o } b (putM s v l) := by
  have hlt := h.lt
  obtain ⟨es, clock, hb, hl⟩ := h
  rcases find_enc hk hi s es.toList l 0 hl with ⟨g1, g2, g3⟩ | ⟨j, e', g1, g2, g3, g4, g5⟩
  · refine ⟨.map (es.push ⟨enc s, v, clock⟩) (clock + 1), ?_, _, _, (heap_set hb).1, ?_⟩
    · simp [Instr.mapUpdate, run_underlying ht, Go.MapKept.run_getObj_map hb, Go.MapKept.run_checkKey hd (hk s), Go.MapKept.run_findKey hd g2, Go.MapKept.run_setObj_map _ hb, Result.andThen]
    · rw [Array.toList_push, List.map_append, hl]
      exact g3 v
  · have hj : es[j]? = some e' := by simpa using g3
    refine ⟨.map (es.modify j (fun e' => { e' with key := enc s, val := v })) clock, ?_, _, _, (heap_set hb).1, ?_⟩
    · have hst := hs s s
      simp only [Nat.zero_add] at g2
      simp [Instr.mapUpdate, run_underlying ht, Go.MapKept.run_getObj_map hb, Go.MapKept.run_checkKey hd (hk s), Go.MapKept.run_findKey hd g2, hj, g4, hst, Go.MapKept.run_setObj_map _ hb, Result.andThen]
    · rw [← g5 v, ← hl]
      apply List.ext_getElem?
      intro i
      simp only [List.getElem?_map, Array.getElem?_toList, List.getElem?_set, Array.getElem?_modify, List.length_map, Array.length_toList]
      by_cases hij : j = i
      · subst hij
        rw [if_pos rfl, if_pos rfl, hj]
        simp [(Array.getElem?_eq_some_iff.1 hj).1]
      · rw [if_neg hij, if_neg hij]
end
end Go.Proofs.Ytgnklkmifcmlhaa.Q
/- Proved here: a map of strings to bool as a list of names, a map of whole numbers to bool as a list of pairs. Conditions: those that each theorem names. -/
namespace Go.Proofs.Ytgnklkmifcmlhaa.Q
open Go.RowKit Go.MapKept Go.Proofs.YtgnklkmifcmlhaaW.PrintWords Go.Proofs.YtgnklkmifcmlhaaW.PrintMore
set_option linter.unusedVariables false
set_option linter.unusedSimpArgs false

instance baDec : DecidableEq ByteArray := fun a b => decidable_of_iff (a.data = b.data) ⟨fun h => ByteArray.ext h, fun h => by rw [h]⟩
instance memDec (n : ByteArray) (l : List ByteArray) : Decidable (n ∈ l) := decidable_of_iff (l.any (fun a => decide (a = n)) = true) (by simp)
def encS (n : ByteArray) : Value := .string n
def encI (n : Int) : Value := .int .i64 n
def setL (l : List ByteArray) : List (ByteArray × Value) := l.map fun n => (n, .bool true)
def sideL (l : List (Int × Bool)) : List (Int × Value) := l.map fun p => (p.1, .bool p.2)
def addS (n : ByteArray) (l : List ByteArray) : List ByteArray := if n ∈ l then l else l ++ [n]
def lookI (n : Int) : List (Int × Bool) → Option Bool
  | [] => none
  | p :: l => if p.1 = n then some p.2 else lookI n l
def putI (n : Int) (b : Bool) : List (Int × Bool) → List (Int × Bool)
  | [] => [(n, b)]
  | p :: l => if p.1 = n then (n, b) :: l else p :: putI n b l
theorem look_set (n : ByteArray) : ∀ l : List ByteArray, lookM n (setL l) = if n ∈ l then some (.bool true) else none
  | [] => rfl
  | a :: l => by
    have h := look_set n l
    simp only [setL, List.map_cons, lookM, List.mem_cons] at h ⊢
    by_cases ha : a = n
    · rw [if_pos ha, if_pos (.inl ha.symm)]
    · rw [if_neg ha, h]
      by_cases hn : n ∈ l
      · rw [if_pos hn, if_pos (.inr hn)]
      · rw [if_neg hn, if_neg (by rintro (h | h); exact ha h.symm; exact hn h)]
theorem put_set (n : ByteArray) : ∀ l : List ByteArray, putM n (.bool true) (setL l) = setL (addS n l)
  | [] => rfl
  | a :: l => by
    have h := put_set n l
    simp only [setL, List.map_cons, putM] at h ⊢
    by_cases ha : a = n
    · rw [if_pos ha, addS, if_pos (by rw [ha]; exact List.mem_cons_self ..), ha]
      rfl
    · rw [if_neg ha, h]
      unfold addS
      by_cases hn : n ∈ l
      · rw [if_pos hn, if_pos (List.mem_cons_of_mem _ hn)]
        rfl
      · rw [if_neg hn, if_neg (by rw [List.mem_cons]; rintro (h | h); exact ha h.symm; exact hn h)]
        rfl
theorem look_side (n : Int) : ∀ l : List (Int × Bool), lookM n (sideL l) = (lookI n l).map Value.bool
  | [] => rfl
  | a :: l => by
    have h := look_side n l
    simp only [sideL, List.map_cons, lookM, lookI] at h ⊢
    by_cases ha : a.1 = n
    · rw [if_pos ha, if_pos ha]; rfl
    · rw [if_neg ha, if_neg ha, h]
theorem put_side (n : Int) (b : Bool) : ∀ l : List (Int × Bool), putM n (.bool b) (sideL l) = sideL (putI n b l)
  | [] => rfl
  | a :: l => by
    have h := put_side n b l
    simp only [sideL, List.map_cons, putM, putI] at h ⊢
    by_cases ha : a.1 = n
    · rw [if_pos ha, if_pos ha]; rfl
    · rw [if_neg ha, if_neg ha, h]; rfl
theorem lookI_put (n m : Int) (b : Bool) : ∀ l : List (Int × Bool), lookI m (putI n b l) = if m = n then some b else lookI m l
  | [] => by
    simp only [putI, lookI]
    by_cases h : n = m
    · rw [if_pos h, if_pos h.symm]
    · rw [if_neg h, if_neg (fun e => h e.symm)]
  | p :: l => by
    simp only [putI]
    by_cases h : p.1 = n
    · rw [if_pos h]
      simp only [lookI]
      by_cases h2 : n = m
      · rw [if_pos h2, if_pos h2.symm]
      · rw [if_neg h2, if_neg (fun e => h2 e.symm), if_neg (fun e => h2 (h.symm.trans e))]
    · rw [if_neg h]
      simp only [lookI, lookI_put n m b l]
      by_cases h2 : p.1 = m
      · rw [if_pos h2, if_pos h2, if_neg (fun e => h (h2.trans e))]
      · rw [if_neg h2, if_neg h2]

abbrev SetIs (w : World) (b : Nat) (l : List ByteArray) : Prop := MapIs encS w b (setL l)
abbrev SideIs (w : World) (b : Nat) (l : List (Int × Bool)) : Prop := MapIs encI w b (sideL l)
theorem keyS : ∀ a, IsKey .string (encS a) := fun _ => trivial
theorem keyI : ∀ a, IsKey (.int .i64) (encI a) := fun _ => rfl
theorem injS : ∀ a c, encS a = encS c → a = c := fun a c h => Value.string.inj h
theorem injI : ∀ a c, encI a = encI c → a = c := fun a c h => by
  unfold encI at h
  injection h
theorem strU : Try.prog.underlying 9 = some .string := by kernel_rfl
theorem intU : Try.prog.underlying 3 = some (.int .i64) := by kernel_rfl
theorem setU : Try.prog.underlying 114 = some (.map 9 4) := by kernel_rfl
theorem sideU : Try.prog.underlying 117 = some (.map 3 4) := by kernel_rfl
theorem zeroB (w : World) : (zeroValue 4).run Try.prog w = .ok (.bool false) w := by
  kernel_rfl
variable {w w1 : World} {b : Nat}
theorem SetIs.look {l : List ByteArray} (h : SetIs w b l) (n : ByteArray) :
    (Instr.lookup 114 (.map (some b)) (.string n) false).run Try.prog w = .ok (.bool (decide (n ∈ l))) w := by
  have g := run_look setU strU keyS injS (zeroB w) h n false
  rw [look_set] at g
  refine Eq.trans g ?_
  by_cases hn : n ∈ l
  · simp [hn]
  · simp [hn]
theorem SetIs.put {l : List ByteArray} (h : SetIs w b l) (n : ByteArray) :
    ∃ o, (Instr.mapUpdate 114 (.map (some b)) (.string n) (.bool true)).run Try.prog w = .ok () { w with heap := w.heap.setIfInBounds b o } ∧ SetIs { w with heap := w.heap.setIfInBounds b o } b (addS n l) := by
  obtain ⟨o, h1, h2⟩ := run_put setU strU keyS injS (fun a c q h => by subst h; simp [Instr.keyThatStays, sameBits_self (keyS a)]) h n (.bool true)
  rw [put_set] at h2
  exact ⟨o, h1, h2⟩
theorem SideIs.look {l : List (Int × Bool)} (h : SideIs w b l) (n : Int) :
    (Instr.lookup 117 (.map (some b)) (.int .i64 n) true).run Try.prog w = .ok (.tuple #[.bool ((lookI n l).getD false), .bool (lookI n l).isSome]) w := by
  have g := run_look sideU intU keyI injI (zeroB w) h n true
  rw [look_side] at g
  refine Eq.trans g ?_
  cases lookI n l <;> simp
theorem SideIs.put {l : List (Int × Bool)} (h : SideIs w b l) (n : Int) (v : Bool) :
    ∃ o, (Instr.mapUpdate 117 (.map (some b)) (.int .i64 n) (.bool v)).run Try.prog w = .ok () { w with heap := w.heap.setIfInBounds b o } ∧ SideIs { w with heap := w.heap.setIfInBounds b o } b (putI n v l) := by
  obtain ⟨o, h1, h2⟩ := run_put sideU intU keyI injI (fun a c q h => by subst h; simp [Instr.keyThatStays, sameBits_self (keyI a)]) h n (.bool v)
  rw [put_side] at h2
  exact ⟨o, h1, h2⟩
end Go.Proofs.Ytgnklkmifcmlhaa.Q
