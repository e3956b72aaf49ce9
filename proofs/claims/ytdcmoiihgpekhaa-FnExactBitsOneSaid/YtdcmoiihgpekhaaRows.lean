/-
  No cell of these rows narrows 'for every input' (looked for: loops, veiled, ifaces, maps, wideKeys, modest, calm, conditions, laid).
  DERIVED. THE GIVEN ROWS OF THIS SEAT. 10 by the template 'for every input the law returns true; each argument reads behind the call as it read before'; 0 by the template 'total and deterministic' (their statements: YtdcmoiihgpekhaaTotals.lean).
  GIVEN WITH THE SEED: the statements are not yours to turn. If you find one false, say at which input.
  Laid BY PROGRAM, IN A SANDBOX (cutbox-rows.mjs): the forced cells as the released guide's own fill.sh prints them over the translation 3751585b55f09d40… (all of the seat's roots in one cut). By AI agents, Wed Nov 11 2026. No macro, syntax, notation, axiom, sorry.
-/
import Derived.Test.YtdcmoiihgpekhaaChecked
import GoSem.Claim
import GoSem.ClaimJoined
import GoSem.ClaimMapViews
import Derived.JoinedTies
import Derived.KernelRfl
namespace Go.Proofs.Ytdcmoiihgpekhaa
/- THE CELL 'sum', in the pinned program and in every row, IS THE sha256 OF THE DUMP (.gsa) THAT YtdcmoiihgpekhaaProg.lean LOADS. Nothing in Lean hashes anything: it is a label: what it is worth is what the hold of that sum in a sandbox is worth. -/
noncomputable def Try.pinned : Pinned := { name := "ytdcmoiihgpekhaa", sum := "3751585b55f09d40a9d2d6866c457e750e3a47c63fdc3be516283713d0149607", checked := Try.checked }
namespace Rows
def none {H : Type} : Left H := { results := [], args := [] }

/-- 'laws.FnExactConstants': WHATEVER THE INPUT: true; the input reads as it did. -/
def fnExactConstantsSpec : ChangeSpec := { name := "fnExactConstants", fn := fun _ => fun
  | [] => { results := [.lit (.bool true)], args := [] }
  | _ => none }
def fnExactConstantsRow : OpenClaim := { program := "ytdcmoiihgpekhaa", sum := "3751585b55f09d40a9d2d6866c457e750e3a47c63fdc3be516283713d0149607", func := "loop.example/temse/laws.FnExactConstants", spec := "fnExactConstants", apart := false }
def FnExactConstantsSaid : Prop := fnExactConstantsRow.holds Try.pinned (OpenSpec.ofChange fnExactConstantsSpec)

/-- ITS FALSE NEIGHBOUR: 'it returns false'. Refute it at one input. -/
def fnExactConstantsWrong : ChangeSpec := { name := "fnExactConstants", fn := fun _ => fun
  | [] => { results := [.lit (.bool false)], args := [] }
  | _ => none }
def FnExactConstantsWrongFalsely : Prop := fnExactConstantsRow.holds Try.pinned (OpenSpec.ofChange fnExactConstantsWrong)

/-- 'laws.FnExactKeyBegins': WHATEVER THE INPUT: true; the input reads as it did. -/
def fnExactKeyBeginsSpec : ChangeSpec := { name := "fnExactKeyBegins", fn := fun _ => fun
  | [d1, d2] => { results := [.lit (.bool true)], args := [d1, d2] }
  | _ => none }
def fnExactKeyBeginsRow : OpenClaim := { program := "ytdcmoiihgpekhaa", sum := "3751585b55f09d40a9d2d6866c457e750e3a47c63fdc3be516283713d0149607", func := "loop.example/temse/laws.FnExactKeyBegins", spec := "fnExactKeyBegins", apart := false }
def FnExactKeyBeginsSaid : Prop := fnExactKeyBeginsRow.holds Try.pinned (OpenSpec.ofChange fnExactKeyBeginsSpec)

/-- ITS FALSE NEIGHBOUR: 'it returns false'. Refute it at one input. -/
def fnExactKeyBeginsWrong : ChangeSpec := { name := "fnExactKeyBegins", fn := fun _ => fun
  | [d1, d2] => { results := [.lit (.bool false)], args := [d1, d2] }
  | _ => none }
def FnExactKeyBeginsWrongFalsely : Prop := fnExactKeyBeginsRow.holds Try.pinned (OpenSpec.ofChange fnExactKeyBeginsWrong)

/-- 'laws.FnExactBitsOk': WHATEVER THE INPUT: true; the input reads as it did. -/
def fnExactBitsOkSpec : ChangeSpec := { name := "fnExactBitsOk", fn := fun _ => fun
  | [d] => { results := [.lit (.bool true)], args := [d] }
  | _ => none }
def fnExactBitsOkRow : OpenClaim := { program := "ytdcmoiihgpekhaa", sum := "3751585b55f09d40a9d2d6866c457e750e3a47c63fdc3be516283713d0149607", func := "loop.example/temse/laws.FnExactBitsOk", spec := "fnExactBitsOk", apart := false }
def FnExactBitsOkSaid : Prop := fnExactBitsOkRow.holds Try.pinned (OpenSpec.ofChange fnExactBitsOkSpec)

/-- ITS FALSE NEIGHBOUR: 'it returns false'. Refute it at one input. -/
def fnExactBitsOkWrong : ChangeSpec := { name := "fnExactBitsOk", fn := fun _ => fun
  | [d] => { results := [.lit (.bool false)], args := [d] }
  | _ => none }
def FnExactBitsOkWrongFalsely : Prop := fnExactBitsOkRow.holds Try.pinned (OpenSpec.ofChange fnExactBitsOkWrong)

/-- 'laws.FnExactKeyOk': WHATEVER THE INPUT: true; the input reads as it did. -/
def fnExactKeyOkSpec : ChangeSpec := { name := "fnExactKeyOk", fn := fun _ => fun
  | [d] => { results := [.lit (.bool true)], args := [d] }
  | _ => none }
def fnExactKeyOkRow : OpenClaim := { program := "ytdcmoiihgpekhaa", sum := "3751585b55f09d40a9d2d6866c457e750e3a47c63fdc3be516283713d0149607", func := "loop.example/temse/laws.FnExactKeyOk", spec := "fnExactKeyOk", apart := false }
def FnExactKeyOkSaid : Prop := fnExactKeyOkRow.holds Try.pinned (OpenSpec.ofChange fnExactKeyOkSpec)

/-- ITS FALSE NEIGHBOUR: 'it returns false'. Refute it at one input. -/
def fnExactKeyOkWrong : ChangeSpec := { name := "fnExactKeyOk", fn := fun _ => fun
  | [d] => { results := [.lit (.bool false)], args := [d] }
  | _ => none }
def FnExactKeyOkWrongFalsely : Prop := fnExactKeyOkRow.holds Try.pinned (OpenSpec.ofChange fnExactKeyOkWrong)

/-- 'laws.FnExactBitsNext': WHATEVER THE INPUT: true; the input reads as it did. -/
def fnExactBitsNextSpec : ChangeSpec := { name := "fnExactBitsNext", fn := fun _ => fun
  | [d1, d2] => { results := [.lit (.bool true)], args := [d1, d2] }
  | _ => none }
def fnExactBitsNextRow : OpenClaim := { program := "ytdcmoiihgpekhaa", sum := "3751585b55f09d40a9d2d6866c457e750e3a47c63fdc3be516283713d0149607", func := "loop.example/temse/laws.FnExactBitsNext", spec := "fnExactBitsNext", inPlace := ["internal/bytealg.IndexByteString"], apart := false }
def FnExactBitsNextSaid : Prop := fnExactBitsNextRow.holds Try.pinned (OpenSpec.ofChange fnExactBitsNextSpec)

/-- ITS FALSE NEIGHBOUR: 'it returns false'. Refute it at one input. -/
def fnExactBitsNextWrong : ChangeSpec := { name := "fnExactBitsNext", fn := fun _ => fun
  | [d1, d2] => { results := [.lit (.bool false)], args := [d1, d2] }
  | _ => none }
def FnExactBitsNextWrongFalsely : Prop := fnExactBitsNextRow.holds Try.pinned (OpenSpec.ofChange fnExactBitsNextWrong)

/-- 'laws.FnSieveEmpty': WHATEVER THE INPUT: true; the input reads as it did. -/
def fnSieveEmptySpec : ChangeSpec := { name := "fnSieveEmpty", fn := fun _ => fun
  | [d] => { results := [.lit (.bool true)], args := [d] }
  | _ => none }
def fnSieveEmptyRow : OpenClaim := { program := "ytdcmoiihgpekhaa", sum := "3751585b55f09d40a9d2d6866c457e750e3a47c63fdc3be516283713d0149607", func := "loop.example/temse/laws.FnSieveEmpty", spec := "fnSieveEmpty", inPlace := ["internal/bytealg.CountString", "internal/bytealg.IndexByteString", "internal/bytealg.IndexString", "internal/abi.NoEscape"], recurses := true, named := ["internal/bytealg.MaxLen"], apart := false }
def FnSieveEmptySaid : Prop := fnSieveEmptyRow.holds Try.pinned (OpenSpec.ofChange fnSieveEmptySpec)

/-- ITS FALSE NEIGHBOUR: 'it returns false'. Refute it at one input. -/
def fnSieveEmptyWrong : ChangeSpec := { name := "fnSieveEmpty", fn := fun _ => fun
  | [d] => { results := [.lit (.bool false)], args := [d] }
  | _ => none }
def FnSieveEmptyWrongFalsely : Prop := fnSieveEmptyRow.holds Try.pinned (OpenSpec.ofChange fnSieveEmptyWrong)

/-- 'laws.FnKeyBegins': WHATEVER THE INPUT: true; the input reads as it did. -/
def fnKeyBeginsSpec : ChangeSpec := { name := "fnKeyBegins", fn := fun _ => fun
  | [d] => { results := [.lit (.bool true)], args := [d] }
  | _ => none }
def fnKeyBeginsRow : OpenClaim := { program := "ytdcmoiihgpekhaa", sum := "3751585b55f09d40a9d2d6866c457e750e3a47c63fdc3be516283713d0149607", func := "loop.example/temse/laws.FnKeyBegins", spec := "fnKeyBegins", apart := false }
def FnKeyBeginsSaid : Prop := fnKeyBeginsRow.holds Try.pinned (OpenSpec.ofChange fnKeyBeginsSpec)

/-- ITS FALSE NEIGHBOUR: 'it returns false'. Refute it at one input. -/
def fnKeyBeginsWrong : ChangeSpec := { name := "fnKeyBegins", fn := fun _ => fun
  | [d] => { results := [.lit (.bool false)], args := [d] }
  | _ => none }
def FnKeyBeginsWrongFalsely : Prop := fnKeyBeginsRow.holds Try.pinned (OpenSpec.ofChange fnKeyBeginsWrong)

/-- 'laws.FnExactBitsOne': WHATEVER THE INPUT: true; the input reads as it did. -/
def fnExactBitsOneSpec : ChangeSpec := { name := "fnExactBitsOne", fn := fun _ => fun
  | [d1, d2] => { results := [.lit (.bool true)], args := [d1, d2] }
  | _ => none }
def fnExactBitsOneRow : OpenClaim := { program := "ytdcmoiihgpekhaa", sum := "3751585b55f09d40a9d2d6866c457e750e3a47c63fdc3be516283713d0149607", func := "loop.example/temse/laws.FnExactBitsOne", spec := "fnExactBitsOne", apart := false }
def FnExactBitsOneSaid : Prop := fnExactBitsOneRow.holds Try.pinned (OpenSpec.ofChange fnExactBitsOneSpec)

/-- ITS FALSE NEIGHBOUR: 'it returns false'. Refute it at one input. -/
def fnExactBitsOneWrong : ChangeSpec := { name := "fnExactBitsOne", fn := fun _ => fun
  | [d1, d2] => { results := [.lit (.bool false)], args := [d1, d2] }
  | _ => none }
def FnExactBitsOneWrongFalsely : Prop := fnExactBitsOneRow.holds Try.pinned (OpenSpec.ofChange fnExactBitsOneWrong)

/-- 'laws.FnExactKeysOk': WHATEVER THE INPUT: true; the input reads as it did. -/
def fnExactKeysOkSpec : ChangeSpec := { name := "fnExactKeysOk", fn := fun _ => fun
  | [d] => { results := [.lit (.bool true)], args := [d] }
  | _ => none }
def fnExactKeysOkRow : OpenClaim := { program := "ytdcmoiihgpekhaa", sum := "3751585b55f09d40a9d2d6866c457e750e3a47c63fdc3be516283713d0149607", func := "loop.example/temse/laws.FnExactKeysOk", spec := "fnExactKeysOk", apart := false }
def FnExactKeysOkSaid : Prop := fnExactKeysOkRow.holds Try.pinned (OpenSpec.ofChange fnExactKeysOkSpec)

/-- ITS FALSE NEIGHBOUR: 'it returns false'. Refute it at one input. -/
def fnExactKeysOkWrong : ChangeSpec := { name := "fnExactKeysOk", fn := fun _ => fun
  | [d] => { results := [.lit (.bool false)], args := [d] }
  | _ => none }
def FnExactKeysOkWrongFalsely : Prop := fnExactKeysOkRow.holds Try.pinned (OpenSpec.ofChange fnExactKeysOkWrong)

/-- 'laws.FnExactKeyFirst': WHATEVER THE INPUT: true; the input reads as it did. -/
def fnExactKeyFirstSpec : ChangeSpec := { name := "fnExactKeyFirst", fn := fun _ => fun
  | [d1, d2] => { results := [.lit (.bool true)], args := [d1, d2] }
  | _ => none }
def fnExactKeyFirstRow : OpenClaim := { program := "ytdcmoiihgpekhaa", sum := "3751585b55f09d40a9d2d6866c457e750e3a47c63fdc3be516283713d0149607", func := "loop.example/temse/laws.FnExactKeyFirst", spec := "fnExactKeyFirst", apart := false }
def FnExactKeyFirstSaid : Prop := fnExactKeyFirstRow.holds Try.pinned (OpenSpec.ofChange fnExactKeyFirstSpec)

/-- ITS FALSE NEIGHBOUR: 'it returns false'. Refute it at one input. -/
def fnExactKeyFirstWrong : ChangeSpec := { name := "fnExactKeyFirst", fn := fun _ => fun
  | [d1, d2] => { results := [.lit (.bool false)], args := [d1, d2] }
  | _ => none }
def FnExactKeyFirstWrongFalsely : Prop := fnExactKeyFirstRow.holds Try.pinned (OpenSpec.ofChange fnExactKeyFirstWrong)

/- THE SECOND FORM. 'bulk': how many values and letters a reading holds, each counted each time it is reached (what is shared counts as often as it is met; a slice's spare places count too). A statement '..UptoSaid' is the law's where the arguments, and the package variables that the reading takes, are together of bulk at most 1048576: NARROWER than '..Said'. Prove '..Said' where nothing that the law and all that it calls make is longer than what came in: it says more and counts as full. Else prove '..UptoSaid'. A law counts once. -/
mutual
def uptoBulk {H : Type} : DataW H → Nat
  | .lit (.string bytes) => bytes.length + 1
  | .lit _ => 1
  | .nil => 1
  | .ptr d => uptoBulk d + 1
  | .slice elems spare => uptoBulkAll elems + uptoBulkAll spare + 1
  | .agg parts => uptoBulkAll parts + 1
  | .iface _ d => uptoBulk d + 1
  | .map entries => uptoBulkEntries entries + 1
  | .held _ => 1
def uptoBulkAll {H : Type} : List (DataW H) → Nat
  | [] => 0
  | d :: r => uptoBulk d + uptoBulkAll r
def uptoBulkEntries {H : Type} : List (Lit × DataW H) → Nat
  | [] => 0
  | x :: r => uptoBulkEntry x + uptoBulkEntries r
def uptoBulkEntry {H : Type} : Lit × DataW H → Nat
  | (.string bytes, d) => bytes.length + uptoBulk d + 1
  | (_, d) => uptoBulk d + 1
 end
def uptoSmall : (H : Type) → List (DataW H) → Bool := fun _ ds => decide (uptoBulkAll ds ≤ 1048576)
def OpenSpec.upto (s : _root_.Go.ChangeSpec) : _root_.Go.OpenSpec := { _root_.Go.OpenSpec.ofChange s with cond := some uptoSmall }

/-- 'laws.FnExactConstants', WHERE WHAT IT READS IS OF BULK AT MOST 1048576: true; the input reads as it did. -/
def fnExactConstantsUptoRow : OpenClaim := { program := "ytdcmoiihgpekhaa", sum := "3751585b55f09d40a9d2d6866c457e750e3a47c63fdc3be516283713d0149607", func := "loop.example/temse/laws.FnExactConstants", spec := "fnExactConstants", apart := false, narrowed := true }
def FnExactConstantsUptoSaid : Prop := fnExactConstantsUptoRow.holds Try.pinned (OpenSpec.upto fnExactConstantsSpec)

/-- 'laws.FnExactKeyBegins', WHERE WHAT IT READS IS OF BULK AT MOST 1048576: true; the input reads as it did. -/
def fnExactKeyBeginsUptoRow : OpenClaim := { program := "ytdcmoiihgpekhaa", sum := "3751585b55f09d40a9d2d6866c457e750e3a47c63fdc3be516283713d0149607", func := "loop.example/temse/laws.FnExactKeyBegins", spec := "fnExactKeyBegins", apart := false, narrowed := true }
def FnExactKeyBeginsUptoSaid : Prop := fnExactKeyBeginsUptoRow.holds Try.pinned (OpenSpec.upto fnExactKeyBeginsSpec)

/-- 'laws.FnExactBitsOk', WHERE WHAT IT READS IS OF BULK AT MOST 1048576: true; the input reads as it did. -/
def fnExactBitsOkUptoRow : OpenClaim := { program := "ytdcmoiihgpekhaa", sum := "3751585b55f09d40a9d2d6866c457e750e3a47c63fdc3be516283713d0149607", func := "loop.example/temse/laws.FnExactBitsOk", spec := "fnExactBitsOk", apart := false, narrowed := true }
def FnExactBitsOkUptoSaid : Prop := fnExactBitsOkUptoRow.holds Try.pinned (OpenSpec.upto fnExactBitsOkSpec)

/-- 'laws.FnExactKeyOk', WHERE WHAT IT READS IS OF BULK AT MOST 1048576: true; the input reads as it did. -/
def fnExactKeyOkUptoRow : OpenClaim := { program := "ytdcmoiihgpekhaa", sum := "3751585b55f09d40a9d2d6866c457e750e3a47c63fdc3be516283713d0149607", func := "loop.example/temse/laws.FnExactKeyOk", spec := "fnExactKeyOk", apart := false, narrowed := true }
def FnExactKeyOkUptoSaid : Prop := fnExactKeyOkUptoRow.holds Try.pinned (OpenSpec.upto fnExactKeyOkSpec)

/-- 'laws.FnExactBitsNext', WHERE WHAT IT READS IS OF BULK AT MOST 1048576: true; the input reads as it did. -/
def fnExactBitsNextUptoRow : OpenClaim := { program := "ytdcmoiihgpekhaa", sum := "3751585b55f09d40a9d2d6866c457e750e3a47c63fdc3be516283713d0149607", func := "loop.example/temse/laws.FnExactBitsNext", spec := "fnExactBitsNext", inPlace := ["internal/bytealg.IndexByteString"], apart := false, narrowed := true }
def FnExactBitsNextUptoSaid : Prop := fnExactBitsNextUptoRow.holds Try.pinned (OpenSpec.upto fnExactBitsNextSpec)

/-- 'laws.FnSieveEmpty', WHERE WHAT IT READS IS OF BULK AT MOST 1048576: true; the input reads as it did. -/
def fnSieveEmptyUptoRow : OpenClaim := { program := "ytdcmoiihgpekhaa", sum := "3751585b55f09d40a9d2d6866c457e750e3a47c63fdc3be516283713d0149607", func := "loop.example/temse/laws.FnSieveEmpty", spec := "fnSieveEmpty", inPlace := ["internal/bytealg.CountString", "internal/bytealg.IndexByteString", "internal/bytealg.IndexString", "internal/abi.NoEscape"], recurses := true, named := ["internal/bytealg.MaxLen"], apart := false, narrowed := true }
def FnSieveEmptyUptoSaid : Prop := fnSieveEmptyUptoRow.holds Try.pinned (OpenSpec.upto fnSieveEmptySpec)

/-- 'laws.FnKeyBegins', WHERE WHAT IT READS IS OF BULK AT MOST 1048576: true; the input reads as it did. -/
def fnKeyBeginsUptoRow : OpenClaim := { program := "ytdcmoiihgpekhaa", sum := "3751585b55f09d40a9d2d6866c457e750e3a47c63fdc3be516283713d0149607", func := "loop.example/temse/laws.FnKeyBegins", spec := "fnKeyBegins", apart := false, narrowed := true }
def FnKeyBeginsUptoSaid : Prop := fnKeyBeginsUptoRow.holds Try.pinned (OpenSpec.upto fnKeyBeginsSpec)

/-- 'laws.FnExactBitsOne', WHERE WHAT IT READS IS OF BULK AT MOST 1048576: true; the input reads as it did. -/
def fnExactBitsOneUptoRow : OpenClaim := { program := "ytdcmoiihgpekhaa", sum := "3751585b55f09d40a9d2d6866c457e750e3a47c63fdc3be516283713d0149607", func := "loop.example/temse/laws.FnExactBitsOne", spec := "fnExactBitsOne", apart := false, narrowed := true }
def FnExactBitsOneUptoSaid : Prop := fnExactBitsOneUptoRow.holds Try.pinned (OpenSpec.upto fnExactBitsOneSpec)

/-- 'laws.FnExactKeysOk', WHERE WHAT IT READS IS OF BULK AT MOST 1048576: true; the input reads as it did. -/
def fnExactKeysOkUptoRow : OpenClaim := { program := "ytdcmoiihgpekhaa", sum := "3751585b55f09d40a9d2d6866c457e750e3a47c63fdc3be516283713d0149607", func := "loop.example/temse/laws.FnExactKeysOk", spec := "fnExactKeysOk", apart := false, narrowed := true }
def FnExactKeysOkUptoSaid : Prop := fnExactKeysOkUptoRow.holds Try.pinned (OpenSpec.upto fnExactKeysOkSpec)

/-- 'laws.FnExactKeyFirst', WHERE WHAT IT READS IS OF BULK AT MOST 1048576: true; the input reads as it did. -/
def fnExactKeyFirstUptoRow : OpenClaim := { program := "ytdcmoiihgpekhaa", sum := "3751585b55f09d40a9d2d6866c457e750e3a47c63fdc3be516283713d0149607", func := "loop.example/temse/laws.FnExactKeyFirst", spec := "fnExactKeyFirst", apart := false, narrowed := true }
def FnExactKeyFirstUptoSaid : Prop := fnExactKeyFirstUptoRow.holds Try.pinned (OpenSpec.upto fnExactKeyFirstSpec)

end Rows
end Go.Proofs.Ytdcmoiihgpekhaa
