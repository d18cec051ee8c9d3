/-
  NARROWER THAN 'FOR EVERY INPUT', by the rows' own cells (each row's printed sentence says how): TypesInsts: loops · TypesMatches: loops · TypesTells: loops · TypesOrder: loops · TypesCompose: loops · TypesVars: loops · TypesFind: loops · PrinterTypes: loops · SignatureAdds: loops.
  DERIVED. THE GIVEN ROWS OF THIS SEAT. 10 by the template 'for every input the law returns true; each argument reads behind the call as it read before'; 0 by the template 'total and deterministic' (their statements: YtgnklkmifcmlhaaTotals.lean).
  GIVEN WITH THE SEED: the statements are not yours to turn. If you find one false, say at which input.
  Laid BY PROGRAM, IN A SANDBOX (cutbox-rows.mjs): the forced cells as the released guide's own fill.sh prints them over the translation d280329adf8a9fd7… (all of the seat's roots in one cut). By AI agents, Wed Nov 11 2026. No macro, syntax, notation, axiom, sorry.
-/
import Derived.Test.YtgnklkmifcmlhaaChecked
import GoSem.Claim
import GoSem.ClaimJoined
import GoSem.ClaimMapViews
import Derived.JoinedTies
import Derived.KernelRfl
namespace Go.Proofs.Ytgnklkmifcmlhaa
/- THE CELL 'sum', in the pinned program and in every row, IS THE sha256 OF THE DUMP (.gsa) THAT YtgnklkmifcmlhaaProg.lean LOADS. Nothing in Lean hashes anything: it is a label: what it is worth is what the hold of that sum in a sandbox is worth. -/
noncomputable def Try.pinned : Pinned := { name := "ytgnklkmifcmlhaa", sum := "d280329adf8a9fd79506e28ee8207ada50be6ef1868a4a368faf5006c2eb553b", checked := Try.checked }
namespace Rows
def none {H : Type} : Left H := { results := [], args := [] }

/-- 'sequentlaw01.TypesInsts': WHATEVER THE INPUT: true; the input reads as it did. -/
def typesInstsSpec : ChangeSpec := { name := "typesInsts", fn := fun _ => fun
  | [d1, d2] => { results := [.lit (.bool true)], args := [d1, d2] }
  | _ => none }
def typesInstsRow : OpenClaim := { program := "ytgnklkmifcmlhaa", sum := "d280329adf8a9fd79506e28ee8207ada50be6ef1868a4a368faf5006c2eb553b", func := "sequent/sequentlaw01.TypesInsts", spec := "typesInsts", unfollowed := true, recurses := true, loops := true, apart := false }
def TypesInstsSaid : Prop := typesInstsRow.holds Try.pinned (OpenSpec.ofChange typesInstsSpec)

/-- ITS FALSE NEIGHBOUR: 'it returns false'. Refute it at one input. -/
def typesInstsWrong : ChangeSpec := { name := "typesInsts", fn := fun _ => fun
  | [d1, d2] => { results := [.lit (.bool false)], args := [d1, d2] }
  | _ => none }
def TypesInstsWrongFalsely : Prop := typesInstsRow.holds Try.pinned (OpenSpec.ofChange typesInstsWrong)

/-- 'sequentlaw01.TypesMatches': WHATEVER THE INPUT: true; the input reads as it did. -/
def typesMatchesSpec : ChangeSpec := { name := "typesMatches", fn := fun _ => fun
  | [d1, d2, d3] => { results := [.lit (.bool true)], args := [d1, d2, d3] }
  | _ => none }
def typesMatchesRow : OpenClaim := { program := "ytgnklkmifcmlhaa", sum := "d280329adf8a9fd79506e28ee8207ada50be6ef1868a4a368faf5006c2eb553b", func := "sequent/sequentlaw01.TypesMatches", spec := "typesMatches", inPlace := ["internal/bytealg.abigen_runtime_cmpstring"], unfollowed := true, recurses := true, loops := true, apart := false }
def TypesMatchesSaid : Prop := typesMatchesRow.holds Try.pinned (OpenSpec.ofChange typesMatchesSpec)

/-- ITS FALSE NEIGHBOUR: 'it returns false'. Refute it at one input. -/
def typesMatchesWrong : ChangeSpec := { name := "typesMatches", fn := fun _ => fun
  | [d1, d2, d3] => { results := [.lit (.bool false)], args := [d1, d2, d3] }
  | _ => none }
def TypesMatchesWrongFalsely : Prop := typesMatchesRow.holds Try.pinned (OpenSpec.ofChange typesMatchesWrong)

/-- 'sequentlaw01.TypesTells': WHATEVER THE INPUT: true; the input reads as it did. -/
def typesTellsSpec : ChangeSpec := { name := "typesTells", fn := fun _ => fun
  | [d1, d2] => { results := [.lit (.bool true)], args := [d1, d2] }
  | _ => none }
def typesTellsRow : OpenClaim := { program := "ytgnklkmifcmlhaa", sum := "d280329adf8a9fd79506e28ee8207ada50be6ef1868a4a368faf5006c2eb553b", func := "sequent/sequentlaw01.TypesTells", spec := "typesTells", inPlace := ["internal/bytealg.abigen_runtime_cmpstring"], unfollowed := true, recurses := true, loops := true, apart := false }
def TypesTellsSaid : Prop := typesTellsRow.holds Try.pinned (OpenSpec.ofChange typesTellsSpec)

/-- ITS FALSE NEIGHBOUR: 'it returns false'. Refute it at one input. -/
def typesTellsWrong : ChangeSpec := { name := "typesTells", fn := fun _ => fun
  | [d1, d2] => { results := [.lit (.bool false)], args := [d1, d2] }
  | _ => none }
def TypesTellsWrongFalsely : Prop := typesTellsRow.holds Try.pinned (OpenSpec.ofChange typesTellsWrong)

/-- 'sequentlaw01.TypesOrder': WHATEVER THE INPUT: true; the input reads as it did. -/
def typesOrderSpec : ChangeSpec := { name := "typesOrder", fn := fun _ => fun
  | [d1, d2, d3] => { results := [.lit (.bool true)], args := [d1, d2, d3] }
  | _ => none }
def typesOrderRow : OpenClaim := { program := "ytgnklkmifcmlhaa", sum := "d280329adf8a9fd79506e28ee8207ada50be6ef1868a4a368faf5006c2eb553b", func := "sequent/sequentlaw01.TypesOrder", spec := "typesOrder", inPlace := ["internal/bytealg.abigen_runtime_cmpstring"], unfollowed := true, recurses := true, loops := true, apart := false }
def TypesOrderSaid : Prop := typesOrderRow.holds Try.pinned (OpenSpec.ofChange typesOrderSpec)

/-- ITS FALSE NEIGHBOUR: 'it returns false'. Refute it at one input. -/
def typesOrderWrong : ChangeSpec := { name := "typesOrder", fn := fun _ => fun
  | [d1, d2, d3] => { results := [.lit (.bool false)], args := [d1, d2, d3] }
  | _ => none }
def TypesOrderWrongFalsely : Prop := typesOrderRow.holds Try.pinned (OpenSpec.ofChange typesOrderWrong)

/-- 'sequentlaw01.TypesCompose': WHATEVER THE INPUT: true; the input reads as it did. -/
def typesComposeSpec : ChangeSpec := { name := "typesCompose", fn := fun _ => fun
  | [d1, d2, d3] => { results := [.lit (.bool true)], args := [d1, d2, d3] }
  | _ => none }
def typesComposeRow : OpenClaim := { program := "ytgnklkmifcmlhaa", sum := "d280329adf8a9fd79506e28ee8207ada50be6ef1868a4a368faf5006c2eb553b", func := "sequent/sequentlaw01.TypesCompose", spec := "typesCompose", inPlace := ["internal/bytealg.abigen_runtime_cmpstring"], unfollowed := true, recurses := true, loops := true, apart := false }
def TypesComposeSaid : Prop := typesComposeRow.holds Try.pinned (OpenSpec.ofChange typesComposeSpec)

/-- ITS FALSE NEIGHBOUR: 'it returns false'. Refute it at one input. -/
def typesComposeWrong : ChangeSpec := { name := "typesCompose", fn := fun _ => fun
  | [d1, d2, d3] => { results := [.lit (.bool false)], args := [d1, d2, d3] }
  | _ => none }
def TypesComposeWrongFalsely : Prop := typesComposeRow.holds Try.pinned (OpenSpec.ofChange typesComposeWrong)

/-- 'sequentlaw01.TypesVars': WHATEVER THE INPUT: true; the input reads as it did. -/
def typesVarsSpec : ChangeSpec := { name := "typesVars", fn := fun _ => fun
  | [d1, d2] => { results := [.lit (.bool true)], args := [d1, d2] }
  | _ => none }
def typesVarsRow : OpenClaim := { program := "ytgnklkmifcmlhaa", sum := "d280329adf8a9fd79506e28ee8207ada50be6ef1868a4a368faf5006c2eb553b", func := "sequent/sequentlaw01.TypesVars", spec := "typesVars", inPlace := ["internal/bytealg.abigen_runtime_cmpstring"], unfollowed := true, recurses := true, loops := true, apart := false }
def TypesVarsSaid : Prop := typesVarsRow.holds Try.pinned (OpenSpec.ofChange typesVarsSpec)

/-- ITS FALSE NEIGHBOUR: 'it returns false'. Refute it at one input. -/
def typesVarsWrong : ChangeSpec := { name := "typesVars", fn := fun _ => fun
  | [d1, d2] => { results := [.lit (.bool false)], args := [d1, d2] }
  | _ => none }
def TypesVarsWrongFalsely : Prop := typesVarsRow.holds Try.pinned (OpenSpec.ofChange typesVarsWrong)

/-- 'sequentlaw01.TypesFind': WHATEVER THE INPUT: true; the input reads as it did. -/
def typesFindSpec : ChangeSpec := { name := "typesFind", fn := fun _ => fun
  | [d1, d2, d3, d4] => { results := [.lit (.bool true)], args := [d1, d2, d3, d4] }
  | _ => none }
def typesFindRow : OpenClaim := { program := "ytgnklkmifcmlhaa", sum := "d280329adf8a9fd79506e28ee8207ada50be6ef1868a4a368faf5006c2eb553b", func := "sequent/sequentlaw01.TypesFind", spec := "typesFind", inPlace := ["internal/bytealg.abigen_runtime_cmpstring"], unfollowed := true, recurses := true, loops := true, apart := false }
def TypesFindSaid : Prop := typesFindRow.holds Try.pinned (OpenSpec.ofChange typesFindSpec)

/-- ITS FALSE NEIGHBOUR: 'it returns false'. Refute it at one input. -/
def typesFindWrong : ChangeSpec := { name := "typesFind", fn := fun _ => fun
  | [d1, d2, d3, d4] => { results := [.lit (.bool false)], args := [d1, d2, d3, d4] }
  | _ => none }
def TypesFindWrongFalsely : Prop := typesFindRow.holds Try.pinned (OpenSpec.ofChange typesFindWrong)

/-- 'sequentlaw01.TypesNames': WHATEVER THE INPUT: true; the input reads as it did. -/
def typesNamesSpec : ChangeSpec := { name := "typesNames", fn := fun _ => fun
  | [] => { results := [.lit (.bool true)], args := [] }
  | _ => none }
def typesNamesRow : OpenClaim := { program := "ytgnklkmifcmlhaa", sum := "d280329adf8a9fd79506e28ee8207ada50be6ef1868a4a368faf5006c2eb553b", func := "sequent/sequentlaw01.TypesNames", spec := "typesNames", inPlace := ["internal/bytealg.abigen_runtime_cmpstring"], unfollowed := true, recurses := true, apart := false }
def TypesNamesSaid : Prop := typesNamesRow.holds Try.pinned (OpenSpec.ofChange typesNamesSpec)

/-- ITS FALSE NEIGHBOUR: 'it returns false'. Refute it at one input. -/
def typesNamesWrong : ChangeSpec := { name := "typesNames", fn := fun _ => fun
  | [] => { results := [.lit (.bool false)], args := [] }
  | _ => none }
def TypesNamesWrongFalsely : Prop := typesNamesRow.holds Try.pinned (OpenSpec.ofChange typesNamesWrong)

/-- 'sequentlaw14.PrinterTypes': WHATEVER THE INPUT: true; the input reads as it did. -/
def printerTypesSpec : ChangeSpec := { name := "printerTypes", fn := fun _ => fun
  | [d1, d2] => { results := [.lit (.bool true)], args := [d1, d2] }
  | _ => none }
def printerTypesRow : OpenClaim := { program := "ytgnklkmifcmlhaa", sum := "d280329adf8a9fd79506e28ee8207ada50be6ef1868a4a368faf5006c2eb553b", func := "sequent/sequentlaw14.PrinterTypes", spec := "printerTypes", unfollowed := true, recurses := true, loops := true, apart := false }
def PrinterTypesSaid : Prop := printerTypesRow.holds Try.pinned (OpenSpec.ofChange printerTypesSpec)

/-- ITS FALSE NEIGHBOUR: 'it returns false'. Refute it at one input. -/
def printerTypesWrong : ChangeSpec := { name := "printerTypes", fn := fun _ => fun
  | [d1, d2] => { results := [.lit (.bool false)], args := [d1, d2] }
  | _ => none }
def PrinterTypesWrongFalsely : Prop := printerTypesRow.holds Try.pinned (OpenSpec.ofChange printerTypesWrong)

/-- 'sequentlaw04.SignatureAdds': WHATEVER THE INPUT: true; the input reads as it did. -/
def signatureAddsSpec : ChangeSpec := { name := "signatureAdds", fn := fun _ => fun
  | [d1, d2, d3, d4] => { results := [.lit (.bool true)], args := [d1, d2, d3, d4] }
  | _ => none }
def signatureAddsRow : OpenClaim := { program := "ytgnklkmifcmlhaa", sum := "d280329adf8a9fd79506e28ee8207ada50be6ef1868a4a368faf5006c2eb553b", func := "sequent/sequentlaw04.SignatureAdds", spec := "signatureAdds", unfollowed := true, recurses := true, loops := true, apart := false }
def SignatureAddsSaid : Prop := signatureAddsRow.holds Try.pinned (OpenSpec.ofChange signatureAddsSpec)

/-- ITS FALSE NEIGHBOUR: 'it returns false'. Refute it at one input. -/
def signatureAddsWrong : ChangeSpec := { name := "signatureAdds", fn := fun _ => fun
  | [d1, d2, d3, d4] => { results := [.lit (.bool false)], args := [d1, d2, d3, d4] }
  | _ => none }
def SignatureAddsWrongFalsely : Prop := signatureAddsRow.holds Try.pinned (OpenSpec.ofChange signatureAddsWrong)

/- THE SECOND FORM. 'bulk': how many values and letters a reading holds, each counted each time it is reached (what is shared counts as often as it is met; a slice's spare places count too). A statement '..UptoSaid' is the law's where the arguments, and the package variables that the reading takes, are together of bulk at most 1048576: NARROWER than '..Said'. Prove '..Said' where nothing that the law and all that it calls make is longer than what came in: it says more and counts as full. Else prove '..UptoSaid'. A law counts once. -/
mutual
def uptoBulk {H : Type} : DataW H → Nat
  | .lit (.string bytes) => bytes.length + 1
  | .lit _ => 1
  | .nil => 1
  | .ptr d => uptoBulk d + 1
  | .slice elems spare => uptoBulkAll elems + uptoBulkAll spare + 1
  | .agg parts => uptoBulkAll parts + 1
  | .iface _ d => uptoBulk d + 1
  | .map entries => uptoBulkEntries entries + 1
  | .held _ => 1
def uptoBulkAll {H : Type} : List (DataW H) → Nat
  | [] => 0
  | d :: r => uptoBulk d + uptoBulkAll r
def uptoBulkEntries {H : Type} : List (Lit × DataW H) → Nat
  | [] => 0
  | x :: r => uptoBulkEntry x + uptoBulkEntries r
def uptoBulkEntry {H : Type} : Lit × DataW H → Nat
  | (.string bytes, d) => bytes.length + uptoBulk d + 1
  | (_, d) => uptoBulk d + 1
 end
def uptoSmall : (H : Type) → List (DataW H) → Bool := fun _ ds => decide (uptoBulkAll ds ≤ 1048576)
def OpenSpec.upto (s : _root_.Go.ChangeSpec) : _root_.Go.OpenSpec := { _root_.Go.OpenSpec.ofChange s with cond := some uptoSmall }

/-- 'sequentlaw01.TypesInsts', WHERE WHAT IT READS IS OF BULK AT MOST 1048576: true; the input reads as it did. -/
def typesInstsUptoRow : OpenClaim := { program := "ytgnklkmifcmlhaa", sum := "d280329adf8a9fd79506e28ee8207ada50be6ef1868a4a368faf5006c2eb553b", func := "sequent/sequentlaw01.TypesInsts", spec := "typesInsts", unfollowed := true, recurses := true, loops := true, apart := false, narrowed := true }
def TypesInstsUptoSaid : Prop := typesInstsUptoRow.holds Try.pinned (OpenSpec.upto typesInstsSpec)

/-- 'sequentlaw01.TypesMatches', WHERE WHAT IT READS IS OF BULK AT MOST 1048576: true; the input reads as it did. -/
def typesMatchesUptoRow : OpenClaim := { program := "ytgnklkmifcmlhaa", sum := "d280329adf8a9fd79506e28ee8207ada50be6ef1868a4a368faf5006c2eb553b", func := "sequent/sequentlaw01.TypesMatches", spec := "typesMatches", inPlace := ["internal/bytealg.abigen_runtime_cmpstring"], unfollowed := true, recurses := true, loops := true, apart := false, narrowed := true }
def TypesMatchesUptoSaid : Prop := typesMatchesUptoRow.holds Try.pinned (OpenSpec.upto typesMatchesSpec)

/-- 'sequentlaw01.TypesTells', WHERE WHAT IT READS IS OF BULK AT MOST 1048576: true; the input reads as it did. -/
def typesTellsUptoRow : OpenClaim := { program := "ytgnklkmifcmlhaa", sum := "d280329adf8a9fd79506e28ee8207ada50be6ef1868a4a368faf5006c2eb553b", func := "sequent/sequentlaw01.TypesTells", spec := "typesTells", inPlace := ["internal/bytealg.abigen_runtime_cmpstring"], unfollowed := true, recurses := true, loops := true, apart := false, narrowed := true }
def TypesTellsUptoSaid : Prop := typesTellsUptoRow.holds Try.pinned (OpenSpec.upto typesTellsSpec)

/-- 'sequentlaw01.TypesOrder', WHERE WHAT IT READS IS OF BULK AT MOST 1048576: true; the input reads as it did. -/
def typesOrderUptoRow : OpenClaim := { program := "ytgnklkmifcmlhaa", sum := "d280329adf8a9fd79506e28ee8207ada50be6ef1868a4a368faf5006c2eb553b", func := "sequent/sequentlaw01.TypesOrder", spec := "typesOrder", inPlace := ["internal/bytealg.abigen_runtime_cmpstring"], unfollowed := true, recurses := true, loops := true, apart := false, narrowed := true }
def TypesOrderUptoSaid : Prop := typesOrderUptoRow.holds Try.pinned (OpenSpec.upto typesOrderSpec)

/-- 'sequentlaw01.TypesCompose', WHERE WHAT IT READS IS OF BULK AT MOST 1048576: true; the input reads as it did. -/
def typesComposeUptoRow : OpenClaim := { program := "ytgnklkmifcmlhaa", sum := "d280329adf8a9fd79506e28ee8207ada50be6ef1868a4a368faf5006c2eb553b", func := "sequent/sequentlaw01.TypesCompose", spec := "typesCompose", inPlace := ["internal/bytealg.abigen_runtime_cmpstring"], unfollowed := true, recurses := true, loops := true, apart := false, narrowed := true }
def TypesComposeUptoSaid : Prop := typesComposeUptoRow.holds Try.pinned (OpenSpec.upto typesComposeSpec)

/-- 'sequentlaw01.TypesVars', WHERE WHAT IT READS IS OF BULK AT MOST 1048576: true; the input reads as it did. -/
def typesVarsUptoRow : OpenClaim := { program := "ytgnklkmifcmlhaa", sum := "d280329adf8a9fd79506e28ee8207ada50be6ef1868a4a368faf5006c2eb553b", func := "sequent/sequentlaw01.TypesVars", spec := "typesVars", inPlace := ["internal/bytealg.abigen_runtime_cmpstring"], unfollowed := true, recurses := true, loops := true, apart := false, narrowed := true }
def TypesVarsUptoSaid : Prop := typesVarsUptoRow.holds Try.pinned (OpenSpec.upto typesVarsSpec)

/-- 'sequentlaw01.TypesFind', WHERE WHAT IT READS IS OF BULK AT MOST 1048576: true; the input reads as it did. -/
def typesFindUptoRow : OpenClaim := { program := "ytgnklkmifcmlhaa", sum := "d280329adf8a9fd79506e28ee8207ada50be6ef1868a4a368faf5006c2eb553b", func := "sequent/sequentlaw01.TypesFind", spec := "typesFind", inPlace := ["internal/bytealg.abigen_runtime_cmpstring"], unfollowed := true, recurses := true, loops := true, apart := false, narrowed := true }
def TypesFindUptoSaid : Prop := typesFindUptoRow.holds Try.pinned (OpenSpec.upto typesFindSpec)

/-- 'sequentlaw01.TypesNames', WHERE WHAT IT READS IS OF BULK AT MOST 1048576: true; the input reads as it did. -/
def typesNamesUptoRow : OpenClaim := { program := "ytgnklkmifcmlhaa", sum := "d280329adf8a9fd79506e28ee8207ada50be6ef1868a4a368faf5006c2eb553b", func := "sequent/sequentlaw01.TypesNames", spec := "typesNames", inPlace := ["internal/bytealg.abigen_runtime_cmpstring"], unfollowed := true, recurses := true, apart := false, narrowed := true }
def TypesNamesUptoSaid : Prop := typesNamesUptoRow.holds Try.pinned (OpenSpec.upto typesNamesSpec)

/-- 'sequentlaw14.PrinterTypes', WHERE WHAT IT READS IS OF BULK AT MOST 1048576: true; the input reads as it did. -/
def printerTypesUptoRow : OpenClaim := { program := "ytgnklkmifcmlhaa", sum := "d280329adf8a9fd79506e28ee8207ada50be6ef1868a4a368faf5006c2eb553b", func := "sequent/sequentlaw14.PrinterTypes", spec := "printerTypes", unfollowed := true, recurses := true, loops := true, apart := false, narrowed := true }
def PrinterTypesUptoSaid : Prop := printerTypesUptoRow.holds Try.pinned (OpenSpec.upto printerTypesSpec)

/-- 'sequentlaw04.SignatureAdds', WHERE WHAT IT READS IS OF BULK AT MOST 1048576: true; the input reads as it did. -/
def signatureAddsUptoRow : OpenClaim := { program := "ytgnklkmifcmlhaa", sum := "d280329adf8a9fd79506e28ee8207ada50be6ef1868a4a368faf5006c2eb553b", func := "sequent/sequentlaw04.SignatureAdds", spec := "signatureAdds", unfollowed := true, recurses := true, loops := true, apart := false, narrowed := true }
def SignatureAddsUptoSaid : Prop := signatureAddsUptoRow.holds Try.pinned (OpenSpec.upto signatureAddsSpec)

end Rows
end Go.Proofs.Ytgnklkmifcmlhaa
