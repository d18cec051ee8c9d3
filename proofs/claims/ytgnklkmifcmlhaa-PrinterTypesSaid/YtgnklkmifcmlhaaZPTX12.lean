/- Proved here: parts of the proof of a given statement (HRowPrinterTypes): contracts of the functions that it reaches, what they answer, and in the last text the statement itself. Conditions: those that each theorem names. -/
import Derived.Test.YtgnklkmifcmlhaaZPTX11
import Derived.Test.YtgnklkmifcmlhaaZPTX10
/- Proved here: a map of two bools to strings, made and looked up. Conditions: those that each theorem names. -/
namespace Go.Proofs.Ytgnklkmifcmlhaa.Q
open Go.RowKit Go.MapKept Go.Proofs.YtgnklkmifcmlhaaW.PrintWords Go.Proofs.YtgnklkmifcmlhaaW.PrintMore
set_option linter.unusedVariables false
set_option linter.unusedSimpArgs false

def putO (w : World) (b : Nat) (o : Obj) : World := { w with heap := w.heap.setIfInBounds b o }
theorem putO_at {w : World} {b : Nat} {o : Obj} (h : b < w.heap.size) : (putO w b o).heap[b]? = some o := by simp [putO, Array.getElem?_setIfInBounds, h]
theorem putO_size {w : World} {b : Nat} {o : Obj} : (putO w b o).heap.size = w.heap.size := by simp [putO]
theorem putO_below {base : Nat} {v w : World} {b : Nat} {o : Obj} (h : Below base v w) (hb : base ≤ b) : Below base v (putO w b o) :=
  ⟨h.os, h.tape, h.output, by rw [putO_size]; exact h.size, fun k hk => by
    rw [← h.block k hk]
    simp only [putO]
    rw [Array.getElem?_setIfInBounds_ne (by omega)]⟩
theorem boolU : Try.prog.underlying 4 = some .bool := by kernel_rfl
theorem mapU : Try.prog.underlying 145 = some (.map 4 9) := by kernel_rfl
theorem ins0 {w : World} {b : Nat} (k : Bool) (v : Value) (h : w.heap[b]? = some (.map #[] 0)) :
    (Instr.mapUpdate 145 (.map (some b)) (.bool k) v).run Try.prog w = .ok () (putO w b (.map #[⟨.bool k, v, 0⟩] 1)) := by
  have g2 : Instr.findNow .bool (.bool k) (#[] : Array MapEntry).toList 0 = some none := rfl
  simp [Instr.mapUpdate, run_underlying mapU, Go.MapKept.run_getObj_map h, Go.MapKept.run_checkKey boolU (show IsKey .bool (.bool k) from trivial), Go.MapKept.run_findKey boolU g2, Go.MapKept.run_setObj_map _ h, Result.andThen, putO]
theorem ins1 {w : World} {b : Nat} (k : Bool) (v u : Value) (h : w.heap[b]? = some (.map #[⟨.bool (!k), u, 0⟩] 1)) :
    (Instr.mapUpdate 145 (.map (some b)) (.bool k) v).run Try.prog w = .ok () (putO w b (.map #[⟨.bool (!k), u, 0⟩, ⟨.bool k, v, 1⟩] 2)) := by
  have g2 : Instr.findNow .bool (.bool k) (#[⟨.bool (!k), u, 0⟩] : Array MapEntry).toList 0 = some none := by cases k <;> rfl
  simp [Instr.mapUpdate, run_underlying mapU, Go.MapKept.run_getObj_map h, Go.MapKept.run_checkKey boolU (show IsKey .bool (.bool k) from trivial), Go.MapKept.run_findKey boolU g2, Go.MapKept.run_setObj_map _ h, Result.andThen, putO]
theorem look2 {w : World} {b : Nat} (k c : Bool) (u v : Value) (h : w.heap[b]? = some (.map #[⟨.bool (!k), u, 0⟩, ⟨.bool k, v, 1⟩] 2)) :
    (Instr.lookup 145 (.map (some b)) (.bool c) false).run Try.prog w = .ok (if c = k then v else u) w := by
  by_cases hc : c = k
  · subst hc
    have g2 : Instr.findNow .bool (.bool c) (#[⟨.bool (!c), u, 0⟩, ⟨.bool c, v, 1⟩] : Array MapEntry).toList 0 = some (some (1, v)) := by cases c <;> rfl
    simp [Instr.lookup, run_underlying mapU, Go.MapKept.run_getObj_map h, Go.MapKept.run_checkKey boolU (show IsKey .bool (.bool c) from trivial), Go.MapKept.run_findKey boolU g2, Result.andThen]
  · have g2 : Instr.findNow .bool (.bool c) (#[⟨.bool (!k), u, 0⟩, ⟨.bool k, v, 1⟩] : Array MapEntry).toList 0 = some (some (0, u)) := by cases c <;> cases k <;> first | rfl | exact absurd rfl hc
    simp [Instr.lookup, run_underlying mapU, Go.MapKept.run_getObj_map h, Go.MapKept.run_checkKey boolU (show IsKey .bool (.bool c) from trivial), Go.MapKept.run_findKey boolU g2, Result.andThen, hc]
def opB : ByteArray := ⟨#[40]⟩
def coB : ByteArray := ⟨#[44, 32]⟩
def OA : Obj := .map #[⟨.bool true, .string opB, 0⟩] 1
def OB : Obj := .map #[⟨.bool false, .string coB, 0⟩] 1
def OAB : Obj := .map #[⟨.bool true, .string opB, 0⟩, ⟨.bool false, .string coB, 1⟩] 2
def OBA : Obj := .map #[⟨.bool false, .string coB, 0⟩, ⟨.bool true, .string opB, 1⟩] 2
theorem insA {w : World} {b : Nat} (h : w.heap[b]? = some (.map #[] 0)) :
    (Instr.mapUpdate 145 (.map (some b)) (.bool true) (.string ⟨#[40]⟩)).run Try.prog w = .ok () (putO w b OA) := ins0 true _ h
theorem insB {w : World} {b : Nat} (h : w.heap[b]? = some (.map #[] 0)) :
    (Instr.mapUpdate 145 (.map (some b)) (.bool false) (.string ⟨#[44, 32]⟩)).run Try.prog w = .ok () (putO w b OB) := ins0 false _ h
theorem insAB {w : World} {b : Nat} (h : w.heap[b]? = some OA) :
    (Instr.mapUpdate 145 (.map (some b)) (.bool false) (.string ⟨#[44, 32]⟩)).run Try.prog w = .ok () (putO w b OAB) := ins1 false _ _ h
theorem insBA {w : World} {b : Nat} (h : w.heap[b]? = some OB) :
    (Instr.mapUpdate 145 (.map (some b)) (.bool true) (.string ⟨#[40]⟩)).run Try.prog w = .ok () (putO w b OBA) := ins1 true _ _ h
theorem lookAB {w : World} {b : Nat} (c : Bool) (h : w.heap[b]? = some OAB) :
    (Instr.lookup 145 (.map (some b)) (.bool c) false).run Try.prog w = .ok (.string (if c = true then opB else coB)) w := by
  rw [look2 false c (.string opB) (.string coB) h]
  cases c <;> rfl
theorem lookBA {w : World} {b : Nat} (c : Bool) (h : w.heap[b]? = some OBA) :
    (Instr.lookup 145 (.map (some b)) (.bool c) false).run Try.prog w = .ok (.string (if c = true then opB else coB)) w := by
  rw [look2 true c (.string coB) (.string opB) h]
  cases c <;> rfl
theorem lookAt {w : World} {b : Nat} (h : w.heap[b]? = some OAB) :
    (Instr.lookup 145 (.map (some b)) (.bool true) false).run Try.prog w = .ok (.string ⟨#[40]⟩) w := lookAB true h
theorem lookAf {w : World} {b : Nat} (h : w.heap[b]? = some OAB) :
    (Instr.lookup 145 (.map (some b)) (.bool false) false).run Try.prog w = .ok (.string ⟨#[44, 32]⟩) w := lookAB false h
theorem lookBt {w : World} {b : Nat} (h : w.heap[b]? = some OBA) :
    (Instr.lookup 145 (.map (some b)) (.bool true) false).run Try.prog w = .ok (.string ⟨#[40]⟩) w := lookBA true h
theorem lookBf {w : World} {b : Nat} (h : w.heap[b]? = some OBA) :
    (Instr.lookup 145 (.map (some b)) (.bool false) false).run Try.prog w = .ok (.string ⟨#[44, 32]⟩) w := lookBA false h
end Go.Proofs.Ytgnklkmifcmlhaa.Q
