/-
  NARROWER THAN 'FOR EVERY INPUT', by the rows' own cells (each row's printed sentence says how): TermsOrder: loops · TermsTells: loops · TermsOpen: loops · TermsHints: loops · TermsTyvars: loops · TermsParts: loops · SubstInsts: loops · SubstTypes: loops · SubstTells: loops · SignatureTells: loops · SignatureOver: loops.
  DERIVED. THE GIVEN ROWS OF THIS SEAT. 12 by the template 'for every input the law returns true; each argument reads behind the call as it read before'; 0 by the template 'total and deterministic' (their statements: YtecplbgdalchdaaTotals.lean).
  GIVEN WITH THE SEED: the statements are not yours to turn. If you find one false, say at which input.
  Laid BY PROGRAM, IN A SANDBOX (cutbox-rows.mjs): the forced cells as the released guide's own fill.sh prints them over the translation abd1902ecd4d3879… (all of the seat's roots in one cut). By AI agents, Wed Nov 11 2026. No macro, syntax, notation, axiom, sorry.
-/
import Derived.Test.YtecplbgdalchdaaChecked
import GoSem.Claim
import GoSem.ClaimJoined
import GoSem.ClaimMapViews
import Derived.JoinedTies
import Derived.KernelRfl
namespace Go.Proofs.Ytecplbgdalchdaa
/- THE CELL 'sum', in the pinned program and in every row, IS THE sha256 OF THE DUMP (.gsa) THAT YtecplbgdalchdaaProg.lean LOADS. Nothing in Lean hashes anything: it is a label: what it is worth is what the hold of that sum in a sandbox is worth. -/
noncomputable def Try.pinned : Pinned := { name := "ytecplbgdalchdaa", sum := "abd1902ecd4d3879b3968807e93f90b22931616842723a535aae8314243cf66d", checked := Try.checked }
namespace Rows
def none {H : Type} : Left H := { results := [], args := [] }

/-- 'sequentlaw02.TermsOrder': WHATEVER THE INPUT: true; the input reads as it did. -/
def termsOrderSpec : ChangeSpec := { name := "termsOrder", fn := fun _ => fun
  | [d1, d2, d3] => { results := [.lit (.bool true)], args := [d1, d2, d3] }
  | _ => none }
def termsOrderRow : OpenClaim := { program := "ytecplbgdalchdaa", sum := "abd1902ecd4d3879b3968807e93f90b22931616842723a535aae8314243cf66d", func := "sequent/sequentlaw02.TermsOrder", spec := "termsOrder", inPlace := ["internal/bytealg.abigen_runtime_cmpstring"], unfollowed := true, recurses := true, loops := true, apart := false }
def TermsOrderSaid : Prop := termsOrderRow.holds Try.pinned (OpenSpec.ofChange termsOrderSpec)

/-- ITS FALSE NEIGHBOUR: 'it returns false'. Refute it at one input. -/
def termsOrderWrong : ChangeSpec := { name := "termsOrder", fn := fun _ => fun
  | [d1, d2, d3] => { results := [.lit (.bool false)], args := [d1, d2, d3] }
  | _ => none }
def TermsOrderWrongFalsely : Prop := termsOrderRow.holds Try.pinned (OpenSpec.ofChange termsOrderWrong)

/-- 'sequentlaw02.TermsTells': WHATEVER THE INPUT: true; the input reads as it did. -/
def termsTellsSpec : ChangeSpec := { name := "termsTells", fn := fun _ => fun
  | [d1, d2] => { results := [.lit (.bool true)], args := [d1, d2] }
  | _ => none }
def termsTellsRow : OpenClaim := { program := "ytecplbgdalchdaa", sum := "abd1902ecd4d3879b3968807e93f90b22931616842723a535aae8314243cf66d", func := "sequent/sequentlaw02.TermsTells", spec := "termsTells", inPlace := ["internal/bytealg.abigen_runtime_cmpstring"], unfollowed := true, recurses := true, loops := true, apart := false }
def TermsTellsSaid : Prop := termsTellsRow.holds Try.pinned (OpenSpec.ofChange termsTellsSpec)

/-- ITS FALSE NEIGHBOUR: 'it returns false'. Refute it at one input. -/
def termsTellsWrong : ChangeSpec := { name := "termsTells", fn := fun _ => fun
  | [d1, d2] => { results := [.lit (.bool false)], args := [d1, d2] }
  | _ => none }
def TermsTellsWrongFalsely : Prop := termsTellsRow.holds Try.pinned (OpenSpec.ofChange termsTellsWrong)

/-- 'sequentlaw02.TermsNames': WHATEVER THE INPUT: true; the input reads as it did. -/
def termsNamesSpec : ChangeSpec := { name := "termsNames", fn := fun _ => fun
  | [] => { results := [.lit (.bool true)], args := [] }
  | _ => none }
def termsNamesRow : OpenClaim := { program := "ytecplbgdalchdaa", sum := "abd1902ecd4d3879b3968807e93f90b22931616842723a535aae8314243cf66d", func := "sequent/sequentlaw02.TermsNames", spec := "termsNames", inPlace := ["internal/bytealg.abigen_runtime_cmpstring"], unfollowed := true, recurses := true, apart := false }
def TermsNamesSaid : Prop := termsNamesRow.holds Try.pinned (OpenSpec.ofChange termsNamesSpec)

/-- ITS FALSE NEIGHBOUR: 'it returns false'. Refute it at one input. -/
def termsNamesWrong : ChangeSpec := { name := "termsNames", fn := fun _ => fun
  | [] => { results := [.lit (.bool false)], args := [] }
  | _ => none }
def TermsNamesWrongFalsely : Prop := termsNamesRow.holds Try.pinned (OpenSpec.ofChange termsNamesWrong)

/-- 'sequentlaw02.TermsOpen': WHATEVER THE INPUT: true; the input reads as it did. -/
def termsOpenSpec : ChangeSpec := { name := "termsOpen", fn := fun _ => fun
  | [d1, d2] => { results := [.lit (.bool true)], args := [d1, d2] }
  | _ => none }
def termsOpenRow : OpenClaim := { program := "ytecplbgdalchdaa", sum := "abd1902ecd4d3879b3968807e93f90b22931616842723a535aae8314243cf66d", func := "sequent/sequentlaw02.TermsOpen", spec := "termsOpen", inPlace := ["internal/bytealg.abigen_runtime_cmpstring"], unfollowed := true, recurses := true, loops := true, apart := false }
def TermsOpenSaid : Prop := termsOpenRow.holds Try.pinned (OpenSpec.ofChange termsOpenSpec)

/-- ITS FALSE NEIGHBOUR: 'it returns false'. Refute it at one input. -/
def termsOpenWrong : ChangeSpec := { name := "termsOpen", fn := fun _ => fun
  | [d1, d2] => { results := [.lit (.bool false)], args := [d1, d2] }
  | _ => none }
def TermsOpenWrongFalsely : Prop := termsOpenRow.holds Try.pinned (OpenSpec.ofChange termsOpenWrong)

/-- 'sequentlaw02.TermsHints': WHATEVER THE INPUT: true; the input reads as it did. -/
def termsHintsSpec : ChangeSpec := { name := "termsHints", fn := fun _ => fun
  | [d1, d2, d3] => { results := [.lit (.bool true)], args := [d1, d2, d3] }
  | _ => none }
def termsHintsRow : OpenClaim := { program := "ytecplbgdalchdaa", sum := "abd1902ecd4d3879b3968807e93f90b22931616842723a535aae8314243cf66d", func := "sequent/sequentlaw02.TermsHints", spec := "termsHints", inPlace := ["internal/bytealg.abigen_runtime_cmpstring"], unfollowed := true, recurses := true, loops := true, apart := false }
def TermsHintsSaid : Prop := termsHintsRow.holds Try.pinned (OpenSpec.ofChange termsHintsSpec)

/-- ITS FALSE NEIGHBOUR: 'it returns false'. Refute it at one input. -/
def termsHintsWrong : ChangeSpec := { name := "termsHints", fn := fun _ => fun
  | [d1, d2, d3] => { results := [.lit (.bool false)], args := [d1, d2, d3] }
  | _ => none }
def TermsHintsWrongFalsely : Prop := termsHintsRow.holds Try.pinned (OpenSpec.ofChange termsHintsWrong)

/-- 'sequentlaw02.TermsTyvars': WHATEVER THE INPUT: true; the input reads as it did. -/
def termsTyvarsSpec : ChangeSpec := { name := "termsTyvars", fn := fun _ => fun
  | [d] => { results := [.lit (.bool true)], args := [d] }
  | _ => none }
def termsTyvarsRow : OpenClaim := { program := "ytecplbgdalchdaa", sum := "abd1902ecd4d3879b3968807e93f90b22931616842723a535aae8314243cf66d", func := "sequent/sequentlaw02.TermsTyvars", spec := "termsTyvars", inPlace := ["internal/bytealg.abigen_runtime_cmpstring"], unfollowed := true, recurses := true, loops := true, apart := false }
def TermsTyvarsSaid : Prop := termsTyvarsRow.holds Try.pinned (OpenSpec.ofChange termsTyvarsSpec)

/-- ITS FALSE NEIGHBOUR: 'it returns false'. Refute it at one input. -/
def termsTyvarsWrong : ChangeSpec := { name := "termsTyvars", fn := fun _ => fun
  | [d] => { results := [.lit (.bool false)], args := [d] }
  | _ => none }
def TermsTyvarsWrongFalsely : Prop := termsTyvarsRow.holds Try.pinned (OpenSpec.ofChange termsTyvarsWrong)

/-- 'sequentlaw02.TermsParts': WHATEVER THE INPUT: true; the input reads as it did. -/
def termsPartsSpec : ChangeSpec := { name := "termsParts", fn := fun _ => fun
  | [d1, d2] => { results := [.lit (.bool true)], args := [d1, d2] }
  | _ => none }
def termsPartsRow : OpenClaim := { program := "ytecplbgdalchdaa", sum := "abd1902ecd4d3879b3968807e93f90b22931616842723a535aae8314243cf66d", func := "sequent/sequentlaw02.TermsParts", spec := "termsParts", inPlace := ["internal/bytealg.abigen_runtime_cmpstring"], unfollowed := true, recurses := true, loops := true, apart := false }
def TermsPartsSaid : Prop := termsPartsRow.holds Try.pinned (OpenSpec.ofChange termsPartsSpec)

/-- ITS FALSE NEIGHBOUR: 'it returns false'. Refute it at one input. -/
def termsPartsWrong : ChangeSpec := { name := "termsParts", fn := fun _ => fun
  | [d1, d2] => { results := [.lit (.bool false)], args := [d1, d2] }
  | _ => none }
def TermsPartsWrongFalsely : Prop := termsPartsRow.holds Try.pinned (OpenSpec.ofChange termsPartsWrong)

/-- 'sequentlaw03.SubstInsts': WHATEVER THE INPUT: true; the input reads as it did. -/
def substInstsSpec : ChangeSpec := { name := "substInsts", fn := fun _ => fun
  | [d1, d2] => { results := [.lit (.bool true)], args := [d1, d2] }
  | _ => none }
def substInstsRow : OpenClaim := { program := "ytecplbgdalchdaa", sum := "abd1902ecd4d3879b3968807e93f90b22931616842723a535aae8314243cf66d", func := "sequent/sequentlaw03.SubstInsts", spec := "substInsts", inPlace := ["internal/bytealg.abigen_runtime_cmpstring"], unfollowed := true, recurses := true, loops := true, apart := false }
def SubstInstsSaid : Prop := substInstsRow.holds Try.pinned (OpenSpec.ofChange substInstsSpec)

/-- ITS FALSE NEIGHBOUR: 'it returns false'. Refute it at one input. -/
def substInstsWrong : ChangeSpec := { name := "substInsts", fn := fun _ => fun
  | [d1, d2] => { results := [.lit (.bool false)], args := [d1, d2] }
  | _ => none }
def SubstInstsWrongFalsely : Prop := substInstsRow.holds Try.pinned (OpenSpec.ofChange substInstsWrong)

/-- 'sequentlaw03.SubstTypes': WHATEVER THE INPUT: true; the input reads as it did. -/
def substTypesSpec : ChangeSpec := { name := "substTypes", fn := fun _ => fun
  | [d1, d2] => { results := [.lit (.bool true)], args := [d1, d2] }
  | _ => none }
def substTypesRow : OpenClaim := { program := "ytecplbgdalchdaa", sum := "abd1902ecd4d3879b3968807e93f90b22931616842723a535aae8314243cf66d", func := "sequent/sequentlaw03.SubstTypes", spec := "substTypes", inPlace := ["internal/bytealg.abigen_runtime_cmpstring"], unfollowed := true, recurses := true, loops := true, apart := false }
def SubstTypesSaid : Prop := substTypesRow.holds Try.pinned (OpenSpec.ofChange substTypesSpec)

/-- ITS FALSE NEIGHBOUR: 'it returns false'. Refute it at one input. -/
def substTypesWrong : ChangeSpec := { name := "substTypes", fn := fun _ => fun
  | [d1, d2] => { results := [.lit (.bool false)], args := [d1, d2] }
  | _ => none }
def SubstTypesWrongFalsely : Prop := substTypesRow.holds Try.pinned (OpenSpec.ofChange substTypesWrong)

/-- 'sequentlaw03.SubstTells': WHATEVER THE INPUT: true; the input reads as it did. -/
def substTellsSpec : ChangeSpec := { name := "substTells", fn := fun _ => fun
  | [d1, d2, d3] => { results := [.lit (.bool true)], args := [d1, d2, d3] }
  | _ => none }
def substTellsRow : OpenClaim := { program := "ytecplbgdalchdaa", sum := "abd1902ecd4d3879b3968807e93f90b22931616842723a535aae8314243cf66d", func := "sequent/sequentlaw03.SubstTells", spec := "substTells", inPlace := ["internal/bytealg.abigen_runtime_cmpstring"], unfollowed := true, recurses := true, loops := true, apart := false }
def SubstTellsSaid : Prop := substTellsRow.holds Try.pinned (OpenSpec.ofChange substTellsSpec)

/-- ITS FALSE NEIGHBOUR: 'it returns false'. Refute it at one input. -/
def substTellsWrong : ChangeSpec := { name := "substTells", fn := fun _ => fun
  | [d1, d2, d3] => { results := [.lit (.bool false)], args := [d1, d2, d3] }
  | _ => none }
def SubstTellsWrongFalsely : Prop := substTellsRow.holds Try.pinned (OpenSpec.ofChange substTellsWrong)

/-- 'sequentlaw04.SignatureTells': WHATEVER THE INPUT: true; the input reads as it did. -/
def signatureTellsSpec : ChangeSpec := { name := "signatureTells", fn := fun _ => fun
  | [d1, d2, d3] => { results := [.lit (.bool true)], args := [d1, d2, d3] }
  | _ => none }
def signatureTellsRow : OpenClaim := { program := "ytecplbgdalchdaa", sum := "abd1902ecd4d3879b3968807e93f90b22931616842723a535aae8314243cf66d", func := "sequent/sequentlaw04.SignatureTells", spec := "signatureTells", inPlace := ["internal/bytealg.abigen_runtime_cmpstring"], unfollowed := true, recurses := true, loops := true, apart := false }
def SignatureTellsSaid : Prop := signatureTellsRow.holds Try.pinned (OpenSpec.ofChange signatureTellsSpec)

/-- ITS FALSE NEIGHBOUR: 'it returns false'. Refute it at one input. -/
def signatureTellsWrong : ChangeSpec := { name := "signatureTells", fn := fun _ => fun
  | [d1, d2, d3] => { results := [.lit (.bool false)], args := [d1, d2, d3] }
  | _ => none }
def SignatureTellsWrongFalsely : Prop := signatureTellsRow.holds Try.pinned (OpenSpec.ofChange signatureTellsWrong)

/-- 'sequentlaw04.SignatureOver': WHATEVER THE INPUT: true; the input reads as it did. -/
def signatureOverSpec : ChangeSpec := { name := "signatureOver", fn := fun _ => fun
  | [d1, d2, d3] => { results := [.lit (.bool true)], args := [d1, d2, d3] }
  | _ => none }
def signatureOverRow : OpenClaim := { program := "ytecplbgdalchdaa", sum := "abd1902ecd4d3879b3968807e93f90b22931616842723a535aae8314243cf66d", func := "sequent/sequentlaw04.SignatureOver", spec := "signatureOver", inPlace := ["internal/bytealg.abigen_runtime_cmpstring"], unfollowed := true, recurses := true, loops := true, apart := false }
def SignatureOverSaid : Prop := signatureOverRow.holds Try.pinned (OpenSpec.ofChange signatureOverSpec)

/-- ITS FALSE NEIGHBOUR: 'it returns false'. Refute it at one input. -/
def signatureOverWrong : ChangeSpec := { name := "signatureOver", fn := fun _ => fun
  | [d1, d2, d3] => { results := [.lit (.bool false)], args := [d1, d2, d3] }
  | _ => none }
def SignatureOverWrongFalsely : Prop := signatureOverRow.holds Try.pinned (OpenSpec.ofChange signatureOverWrong)

/- THE SECOND FORM. 'bulk': how many values and letters a reading holds, each counted each time it is reached (what is shared counts as often as it is met; a slice's spare places count too). A statement '..UptoSaid' is the law's where the arguments, and the package variables that the reading takes, are together of bulk at most 1048576: NARROWER than '..Said'. Prove '..Said' where nothing that the law and all that it calls make is longer than what came in: it says more and counts as full. Else prove '..UptoSaid'. A law counts once. -/
mutual
def uptoBulk {H : Type} : DataW H → Nat
  | .lit (.string bytes) => bytes.length + 1
  | .lit _ => 1
  | .nil => 1
  | .ptr d => uptoBulk d + 1
  | .slice elems spare => uptoBulkAll elems + uptoBulkAll spare + 1
  | .agg parts => uptoBulkAll parts + 1
  | .iface _ d => uptoBulk d + 1
  | .map entries => uptoBulkEntries entries + 1
  | .held _ => 1
def uptoBulkAll {H : Type} : List (DataW H) → Nat
  | [] => 0
  | d :: r => uptoBulk d + uptoBulkAll r
def uptoBulkEntries {H : Type} : List (Lit × DataW H) → Nat
  | [] => 0
  | x :: r => uptoBulkEntry x + uptoBulkEntries r
def uptoBulkEntry {H : Type} : Lit × DataW H → Nat
  | (.string bytes, d) => bytes.length + uptoBulk d + 1
  | (_, d) => uptoBulk d + 1
 end
def uptoSmall : (H : Type) → List (DataW H) → Bool := fun _ ds => decide (uptoBulkAll ds ≤ 1048576)
def OpenSpec.upto (s : _root_.Go.ChangeSpec) : _root_.Go.OpenSpec := { _root_.Go.OpenSpec.ofChange s with cond := some uptoSmall }

/-- 'sequentlaw02.TermsOrder', WHERE WHAT IT READS IS OF BULK AT MOST 1048576: true; the input reads as it did. -/
def termsOrderUptoRow : OpenClaim := { program := "ytecplbgdalchdaa", sum := "abd1902ecd4d3879b3968807e93f90b22931616842723a535aae8314243cf66d", func := "sequent/sequentlaw02.TermsOrder", spec := "termsOrder", inPlace := ["internal/bytealg.abigen_runtime_cmpstring"], unfollowed := true, recurses := true, loops := true, apart := false, narrowed := true }
def TermsOrderUptoSaid : Prop := termsOrderUptoRow.holds Try.pinned (OpenSpec.upto termsOrderSpec)

/-- 'sequentlaw02.TermsTells', WHERE WHAT IT READS IS OF BULK AT MOST 1048576: true; the input reads as it did. -/
def termsTellsUptoRow : OpenClaim := { program := "ytecplbgdalchdaa", sum := "abd1902ecd4d3879b3968807e93f90b22931616842723a535aae8314243cf66d", func := "sequent/sequentlaw02.TermsTells", spec := "termsTells", inPlace := ["internal/bytealg.abigen_runtime_cmpstring"], unfollowed := true, recurses := true, loops := true, apart := false, narrowed := true }
def TermsTellsUptoSaid : Prop := termsTellsUptoRow.holds Try.pinned (OpenSpec.upto termsTellsSpec)

/-- 'sequentlaw02.TermsNames', WHERE WHAT IT READS IS OF BULK AT MOST 1048576: true; the input reads as it did. -/
def termsNamesUptoRow : OpenClaim := { program := "ytecplbgdalchdaa", sum := "abd1902ecd4d3879b3968807e93f90b22931616842723a535aae8314243cf66d", func := "sequent/sequentlaw02.TermsNames", spec := "termsNames", inPlace := ["internal/bytealg.abigen_runtime_cmpstring"], unfollowed := true, recurses := true, apart := false, narrowed := true }
def TermsNamesUptoSaid : Prop := termsNamesUptoRow.holds Try.pinned (OpenSpec.upto termsNamesSpec)

/-- 'sequentlaw02.TermsOpen', WHERE WHAT IT READS IS OF BULK AT MOST 1048576: true; the input reads as it did. -/
def termsOpenUptoRow : OpenClaim := { program := "ytecplbgdalchdaa", sum := "abd1902ecd4d3879b3968807e93f90b22931616842723a535aae8314243cf66d", func := "sequent/sequentlaw02.TermsOpen", spec := "termsOpen", inPlace := ["internal/bytealg.abigen_runtime_cmpstring"], unfollowed := true, recurses := true, loops := true, apart := false, narrowed := true }
def TermsOpenUptoSaid : Prop := termsOpenUptoRow.holds Try.pinned (OpenSpec.upto termsOpenSpec)

/-- 'sequentlaw02.TermsHints', WHERE WHAT IT READS IS OF BULK AT MOST 1048576: true; the input reads as it did. -/
def termsHintsUptoRow : OpenClaim := { program := "ytecplbgdalchdaa", sum := "abd1902ecd4d3879b3968807e93f90b22931616842723a535aae8314243cf66d", func := "sequent/sequentlaw02.TermsHints", spec := "termsHints", inPlace := ["internal/bytealg.abigen_runtime_cmpstring"], unfollowed := true, recurses := true, loops := true, apart := false, narrowed := true }
def TermsHintsUptoSaid : Prop := termsHintsUptoRow.holds Try.pinned (OpenSpec.upto termsHintsSpec)

/-- 'sequentlaw02.TermsTyvars', WHERE WHAT IT READS IS OF BULK AT MOST 1048576: true; the input reads as it did. -/
def termsTyvarsUptoRow : OpenClaim := { program := "ytecplbgdalchdaa", sum := "abd1902ecd4d3879b3968807e93f90b22931616842723a535aae8314243cf66d", func := "sequent/sequentlaw02.TermsTyvars", spec := "termsTyvars", inPlace := ["internal/bytealg.abigen_runtime_cmpstring"], unfollowed := true, recurses := true, loops := true, apart := false, narrowed := true }
def TermsTyvarsUptoSaid : Prop := termsTyvarsUptoRow.holds Try.pinned (OpenSpec.upto termsTyvarsSpec)

/-- 'sequentlaw02.TermsParts', WHERE WHAT IT READS IS OF BULK AT MOST 1048576: true; the input reads as it did. -/
def termsPartsUptoRow : OpenClaim := { program := "ytecplbgdalchdaa", sum := "abd1902ecd4d3879b3968807e93f90b22931616842723a535aae8314243cf66d", func := "sequent/sequentlaw02.TermsParts", spec := "termsParts", inPlace := ["internal/bytealg.abigen_runtime_cmpstring"], unfollowed := true, recurses := true, loops := true, apart := false, narrowed := true }
def TermsPartsUptoSaid : Prop := termsPartsUptoRow.holds Try.pinned (OpenSpec.upto termsPartsSpec)

/-- 'sequentlaw03.SubstInsts', WHERE WHAT IT READS IS OF BULK AT MOST 1048576: true; the input reads as it did. -/
def substInstsUptoRow : OpenClaim := { program := "ytecplbgdalchdaa", sum := "abd1902ecd4d3879b3968807e93f90b22931616842723a535aae8314243cf66d", func := "sequent/sequentlaw03.SubstInsts", spec := "substInsts", inPlace := ["internal/bytealg.abigen_runtime_cmpstring"], unfollowed := true, recurses := true, loops := true, apart := false, narrowed := true }
def SubstInstsUptoSaid : Prop := substInstsUptoRow.holds Try.pinned (OpenSpec.upto substInstsSpec)

/-- 'sequentlaw03.SubstTypes', WHERE WHAT IT READS IS OF BULK AT MOST 1048576: true; the input reads as it did. -/
def substTypesUptoRow : OpenClaim := { program := "ytecplbgdalchdaa", sum := "abd1902ecd4d3879b3968807e93f90b22931616842723a535aae8314243cf66d", func := "sequent/sequentlaw03.SubstTypes", spec := "substTypes", inPlace := ["internal/bytealg.abigen_runtime_cmpstring"], unfollowed := true, recurses := true, loops := true, apart := false, narrowed := true }
def SubstTypesUptoSaid : Prop := substTypesUptoRow.holds Try.pinned (OpenSpec.upto substTypesSpec)

/-- 'sequentlaw03.SubstTells', WHERE WHAT IT READS IS OF BULK AT MOST 1048576: true; the input reads as it did. -/
def substTellsUptoRow : OpenClaim := { program := "ytecplbgdalchdaa", sum := "abd1902ecd4d3879b3968807e93f90b22931616842723a535aae8314243cf66d", func := "sequent/sequentlaw03.SubstTells", spec := "substTells", inPlace := ["internal/bytealg.abigen_runtime_cmpstring"], unfollowed := true, recurses := true, loops := true, apart := false, narrowed := true }
def SubstTellsUptoSaid : Prop := substTellsUptoRow.holds Try.pinned (OpenSpec.upto substTellsSpec)

/-- 'sequentlaw04.SignatureTells', WHERE WHAT IT READS IS OF BULK AT MOST 1048576: true; the input reads as it did. -/
def signatureTellsUptoRow : OpenClaim := { program := "ytecplbgdalchdaa", sum := "abd1902ecd4d3879b3968807e93f90b22931616842723a535aae8314243cf66d", func := "sequent/sequentlaw04.SignatureTells", spec := "signatureTells", inPlace := ["internal/bytealg.abigen_runtime_cmpstring"], unfollowed := true, recurses := true, loops := true, apart := false, narrowed := true }
def SignatureTellsUptoSaid : Prop := signatureTellsUptoRow.holds Try.pinned (OpenSpec.upto signatureTellsSpec)

/-- 'sequentlaw04.SignatureOver', WHERE WHAT IT READS IS OF BULK AT MOST 1048576: true; the input reads as it did. -/
def signatureOverUptoRow : OpenClaim := { program := "ytecplbgdalchdaa", sum := "abd1902ecd4d3879b3968807e93f90b22931616842723a535aae8314243cf66d", func := "sequent/sequentlaw04.SignatureOver", spec := "signatureOver", inPlace := ["internal/bytealg.abigen_runtime_cmpstring"], unfollowed := true, recurses := true, loops := true, apart := false, narrowed := true }
def SignatureOverUptoSaid : Prop := signatureOverUptoRow.holds Try.pinned (OpenSpec.upto signatureOverSpec)

end Rows
end Go.Proofs.Ytecplbgdalchdaa
