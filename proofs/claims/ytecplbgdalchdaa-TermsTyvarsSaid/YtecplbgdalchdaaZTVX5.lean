/- Proved here: parts of the proof of a given statement (HRowTermsTyvars): contracts of the functions that it reaches, what they answer, and in the last text the statement itself. Conditions: those that each theorem names. -/
import Derived.Test.YtecplbgdalchdaaZTVX3
import Derived.Lib.Bytealg
import Derived.Lib.Strings
/- Proved here: the contract of strings.Compare. Conditions: those that each theorem names. -/
namespace Go.Proofs.Ytecplbgdalchdaa.Q
open Go.RowKit Go.Proofs.YtecplbgdalchdaaW.PrintWords
set_option linter.unusedVariables false
set_option linter.unusedSimpArgs false

set_option maxHeartbeats 1000000 in
set_option maxRecDepth 100000 in
theorem compareString_calls (a b : ByteArray) (w : World) :
    Calls Try.prog 164 #[.string a, .string b] w fun e w' => e = .returned (.int .i64 (Lib.compareBytes a.data.toList b.data.toList)) ∧ w' = w := by
  go_enter Try.func164, Try.ntmps164
  go_wp2
  rw [run_callFunc_extern Try.func208 (by kernel_rfl) (by kernel_rfl) (by kernel_rfl) (e := Extern.BytealgCompare.compare) (by kernel_rfl), Lib.run_compareString]
  simp only [Result.andThen]
  rw [Oper.upon_value]
  go_wp2
  go_ret
  exact ⟨rfl, rfl⟩

theorem compare_calls (a b : ByteArray) (w : World) :
    Calls Try.prog 92 #[.string a, .string b] w fun e w' => e = .returned (.int .i64 (Lib.compareBytes a.data.toList b.data.toList)) ∧ w' = w := by
  go_enter Try.func92, Try.ntmps92
  go_wp2_with (go_at_call 164; refine (compareString_calls _ _ _).mono ?_; rintro e w' ⟨rfl, rfl⟩)
  go_ret
  exact ⟨rfl, rfl⟩

end Go.Proofs.Ytecplbgdalchdaa.Q
