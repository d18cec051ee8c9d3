/- Proved here: parts of the proof of a given statement (HRowTermsTyvars): contracts of the functions that it reaches, what they answer, and in the last text the statement itself. Conditions: those that each theorem names. -/
import Derived.Test.YtecplbgdalchdaaZTVX4
import Derived.ChangeMaps4
import Derived.Carry
/- Proved here: maps of simple keys, told by a list of keys and values: made, looked up, updated. Conditions: those that each theorem names. -/
namespace Go.Proofs.Ytecplbgdalchdaa.Q
open Go.RowKit Go.MapKept Go.Proofs.YtecplbgdalchdaaW.PrintWords Go.Proofs.YtecplbgdalchdaaW.PrintMore
set_option linter.unusedVariables false
set_option linter.unusedSimpArgs false

section
variable {κ : Type}
variable {enc : κ → Value} {w w1 : World} {b : Nat} {l : List (κ × Value)}
end
section
variable {κ : Type} [DecidableEq κ]
variable {enc : κ → Value} {d : TypeDesc} {P : Program} {w w1 : World} {b : Nat} {l : List (κ × Value)}
end
end Go.Proofs.Ytecplbgdalchdaa.Q
/- Proved here: keys of maps. Conditions: those that each theorem names. -/
namespace Go.Proofs.Ytecplbgdalchdaa.Q
open Go.RowKit Go.MapKept Go.Proofs.YtecplbgdalchdaaW.PrintWords Go.Proofs.YtecplbgdalchdaaW.PrintMore
set_option linter.unusedVariables false
set_option linter.unusedSimpArgs false

end Go.Proofs.Ytecplbgdalchdaa.Q
/- Proved here: all but one block stays. Conditions: those that each theorem names. -/
namespace Go.Proofs.Ytecplbgdalchdaa.Q
open Go.RowKit Go.Shelf Go.Proofs.YtecplbgdalchdaaW.PrintWords Go.Proofs.YtecplbgdalchdaaW.PrintMore
set_option linter.unusedVariables false
set_option linter.unusedSimpArgs false

theorem two_new (w : World) (o p : Obj) : Below w.heap.size w ((w.alloc o).alloc p) ∧ ((w.alloc o).alloc p).heap[w.heap.size]? = some o ∧ ((w.alloc o).alloc p).heap[w.heap.size + 1]? = some p :=
  ⟨(below_one o).alloc (Nat.le_of_lt (blk_lt (blk_new w o))) p, blk_below (blk_new w o) (below_one p), by simpa using blk_new (w.alloc o) p⟩
end Go.Proofs.Ytecplbgdalchdaa.Q
