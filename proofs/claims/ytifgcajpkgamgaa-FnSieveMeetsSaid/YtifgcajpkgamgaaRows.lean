/-
  No cell of these rows narrows 'for every input' (looked for: loops, veiled, ifaces, maps, wideKeys, modest, calm, conditions, laid).
  DERIVED. THE GIVEN ROWS OF THIS SEAT. 24 by the template 'for every input the law returns true; each argument reads behind the call as it read before'; 0 by the template 'total and deterministic' (their statements: YtifgcajpkgamgaaTotals.lean).
  GIVEN WITH THE SEED: the statements are not yours to turn. If you find one false, say at which input.
  Laid BY PROGRAM, IN A SANDBOX (cutbox-rows.mjs): the forced cells as the released guide's own fill.sh prints them over the translation f914941b4ae74715… (all of the seat's roots in one cut). By AI agents, Wed Nov 11 2026. No macro, syntax, notation, axiom, sorry.
-/
import Derived.Test.YtifgcajpkgamgaaChecked
import GoSem.Claim
import GoSem.ClaimJoined
import GoSem.ClaimMapViews
import Derived.JoinedTies
import Derived.KernelRfl
namespace Go.Proofs.Ytifgcajpkgamgaa
/- THE CELL 'sum', in the pinned program and in every row, IS THE sha256 OF THE DUMP (.gsa) THAT YtifgcajpkgamgaaProg.lean LOADS. Nothing in Lean hashes anything: it is a label: what it is worth is what the hold of that sum in a sandbox is worth. -/
noncomputable def Try.pinned : Pinned := { name := "ytifgcajpkgamgaa", sum := "f914941b4ae747150ef25788fadac680553afdcf338cfe17be33ce4c0b296f35", checked := Try.checked }
namespace Rows
def none {H : Type} : Left H := { results := [], args := [] }

/-- 'laws.FnSieveEmpty': WHATEVER THE INPUT: true; the input reads as it did. -/
def fnSieveEmptySpec : ChangeSpec := { name := "fnSieveEmpty", fn := fun _ => fun
  | [d] => { results := [.lit (.bool true)], args := [d] }
  | _ => none }
def fnSieveEmptyRow : OpenClaim := { program := "ytifgcajpkgamgaa", sum := "f914941b4ae747150ef25788fadac680553afdcf338cfe17be33ce4c0b296f35", func := "loop.example/temse/laws.FnSieveEmpty", spec := "fnSieveEmpty", inPlace := ["internal/bytealg.CountString", "internal/bytealg.IndexByteString", "internal/bytealg.IndexString", "internal/abi.NoEscape"], recurses := true, named := ["internal/bytealg.MaxLen"], apart := false }
def FnSieveEmptySaid : Prop := fnSieveEmptyRow.holds Try.pinned (OpenSpec.ofChange fnSieveEmptySpec)

/-- ITS FALSE NEIGHBOUR: 'it returns false'. Refute it at one input. -/
def fnSieveEmptyWrong : ChangeSpec := { name := "fnSieveEmpty", fn := fun _ => fun
  | [d] => { results := [.lit (.bool false)], args := [d] }
  | _ => none }
def FnSieveEmptyWrongFalsely : Prop := fnSieveEmptyRow.holds Try.pinned (OpenSpec.ofChange fnSieveEmptyWrong)

/-- 'laws.FnSieveMeets': WHATEVER THE INPUT: true; the input reads as it did. -/
def fnSieveMeetsSpec : ChangeSpec := { name := "fnSieveMeets", fn := fun _ => fun
  | [d1, d2] => { results := [.lit (.bool true)], args := [d1, d2] }
  | _ => none }
def fnSieveMeetsRow : OpenClaim := { program := "ytifgcajpkgamgaa", sum := "f914941b4ae747150ef25788fadac680553afdcf338cfe17be33ce4c0b296f35", func := "loop.example/temse/laws.FnSieveMeets", spec := "fnSieveMeets", inPlace := ["internal/abi.NoEscape", "internal/bytealg.CountString", "internal/bytealg.IndexByteString", "internal/bytealg.IndexString"], recurses := true, named := ["internal/bytealg.MaxLen"], apart := false }
def FnSieveMeetsSaid : Prop := fnSieveMeetsRow.holds Try.pinned (OpenSpec.ofChange fnSieveMeetsSpec)

/-- ITS FALSE NEIGHBOUR: 'it returns false'. Refute it at one input. -/
def fnSieveMeetsWrong : ChangeSpec := { name := "fnSieveMeets", fn := fun _ => fun
  | [d1, d2] => { results := [.lit (.bool false)], args := [d1, d2] }
  | _ => none }
def FnSieveMeetsWrongFalsely : Prop := fnSieveMeetsRow.holds Try.pinned (OpenSpec.ofChange fnSieveMeetsWrong)

/-- 'laws.FnSieveMore': WHATEVER THE INPUT: true; the input reads as it did. -/
def fnSieveMoreSpec : ChangeSpec := { name := "fnSieveMore", fn := fun _ => fun
  | [d1, d2] => { results := [.lit (.bool true)], args := [d1, d2] }
  | _ => none }
def fnSieveMoreRow : OpenClaim := { program := "ytifgcajpkgamgaa", sum := "f914941b4ae747150ef25788fadac680553afdcf338cfe17be33ce4c0b296f35", func := "loop.example/temse/laws.FnSieveMore", spec := "fnSieveMore", inPlace := ["internal/abi.NoEscape", "internal/bytealg.CountString", "internal/bytealg.IndexByteString", "internal/bytealg.IndexString"], recurses := true, named := ["internal/bytealg.MaxLen"], apart := false }
def FnSieveMoreSaid : Prop := fnSieveMoreRow.holds Try.pinned (OpenSpec.ofChange fnSieveMoreSpec)

/-- ITS FALSE NEIGHBOUR: 'it returns false'. Refute it at one input. -/
def fnSieveMoreWrong : ChangeSpec := { name := "fnSieveMore", fn := fun _ => fun
  | [d1, d2] => { results := [.lit (.bool false)], args := [d1, d2] }
  | _ => none }
def FnSieveMoreWrongFalsely : Prop := fnSieveMoreRow.holds Try.pinned (OpenSpec.ofChange fnSieveMoreWrong)

/-- 'laws.FnSieveApart': WHATEVER THE INPUT: true; the input reads as it did. -/
def fnSieveApartSpec : ChangeSpec := { name := "fnSieveApart", fn := fun _ => fun
  | [d] => { results := [.lit (.bool true)], args := [d] }
  | _ => none }
def fnSieveApartRow : OpenClaim := { program := "ytifgcajpkgamgaa", sum := "f914941b4ae747150ef25788fadac680553afdcf338cfe17be33ce4c0b296f35", func := "loop.example/temse/laws.FnSieveApart", spec := "fnSieveApart", inPlace := ["internal/abi.NoEscape", "internal/bytealg.CountString", "internal/bytealg.IndexByteString", "internal/bytealg.IndexString"], recurses := true, named := ["internal/bytealg.MaxLen"], apart := false }
def FnSieveApartSaid : Prop := fnSieveApartRow.holds Try.pinned (OpenSpec.ofChange fnSieveApartSpec)

/-- ITS FALSE NEIGHBOUR: 'it returns false'. Refute it at one input. -/
def fnSieveApartWrong : ChangeSpec := { name := "fnSieveApart", fn := fun _ => fun
  | [d] => { results := [.lit (.bool false)], args := [d] }
  | _ => none }
def FnSieveApartWrongFalsely : Prop := fnSieveApartRow.holds Try.pinned (OpenSpec.ofChange fnSieveApartWrong)

/-- 'laws.FnSieveHeads': WHATEVER THE INPUT: true; the input reads as it did. -/
def fnSieveHeadsSpec : ChangeSpec := { name := "fnSieveHeads", fn := fun _ => fun
  | [d] => { results := [.lit (.bool true)], args := [d] }
  | _ => none }
def fnSieveHeadsRow : OpenClaim := { program := "ytifgcajpkgamgaa", sum := "f914941b4ae747150ef25788fadac680553afdcf338cfe17be33ce4c0b296f35", func := "loop.example/temse/laws.FnSieveHeads", spec := "fnSieveHeads", inPlace := ["internal/abi.NoEscape", "internal/bytealg.CountString", "internal/bytealg.IndexByteString", "internal/bytealg.IndexString"], recurses := true, named := ["internal/bytealg.MaxLen"], apart := false }
def FnSieveHeadsSaid : Prop := fnSieveHeadsRow.holds Try.pinned (OpenSpec.ofChange fnSieveHeadsSpec)

/-- ITS FALSE NEIGHBOUR: 'it returns false'. Refute it at one input. -/
def fnSieveHeadsWrong : ChangeSpec := { name := "fnSieveHeads", fn := fun _ => fun
  | [d] => { results := [.lit (.bool false)], args := [d] }
  | _ => none }
def FnSieveHeadsWrongFalsely : Prop := fnSieveHeadsRow.holds Try.pinned (OpenSpec.ofChange fnSieveHeadsWrong)

/-- 'laws.FnSieveSeekKey': WHATEVER THE INPUT: true; the input reads as it did. -/
def fnSieveSeekKeySpec : ChangeSpec := { name := "fnSieveSeekKey", fn := fun _ => fun
  | [d1, d2] => { results := [.lit (.bool true)], args := [d1, d2] }
  | _ => none }
def fnSieveSeekKeyRow : OpenClaim := { program := "ytifgcajpkgamgaa", sum := "f914941b4ae747150ef25788fadac680553afdcf338cfe17be33ce4c0b296f35", func := "loop.example/temse/laws.FnSieveSeekKey", spec := "fnSieveSeekKey", inPlace := ["internal/abi.NoEscape", "internal/bytealg.CountString", "internal/bytealg.IndexByteString", "internal/bytealg.IndexString"], recurses := true, named := ["internal/bytealg.MaxLen"], apart := false }
def FnSieveSeekKeySaid : Prop := fnSieveSeekKeyRow.holds Try.pinned (OpenSpec.ofChange fnSieveSeekKeySpec)

/-- ITS FALSE NEIGHBOUR: 'it returns false'. Refute it at one input. -/
def fnSieveSeekKeyWrong : ChangeSpec := { name := "fnSieveSeekKey", fn := fun _ => fun
  | [d1, d2] => { results := [.lit (.bool false)], args := [d1, d2] }
  | _ => none }
def FnSieveSeekKeyWrongFalsely : Prop := fnSieveSeekKeyRow.holds Try.pinned (OpenSpec.ofChange fnSieveSeekKeyWrong)

/-- 'laws.FnSieveKeep': WHATEVER THE INPUT: true; the input reads as it did. -/
def fnSieveKeepSpec : ChangeSpec := { name := "fnSieveKeep", fn := fun _ => fun
  | [d1, d2] => { results := [.lit (.bool true)], args := [d1, d2] }
  | _ => none }
def fnSieveKeepRow : OpenClaim := { program := "ytifgcajpkgamgaa", sum := "f914941b4ae747150ef25788fadac680553afdcf338cfe17be33ce4c0b296f35", func := "loop.example/temse/laws.FnSieveKeep", spec := "fnSieveKeep", inPlace := ["internal/abi.NoEscape", "internal/bytealg.CountString", "internal/bytealg.IndexByteString", "internal/bytealg.IndexString"], recurses := true, named := ["internal/bytealg.MaxLen"], apart := false }
def FnSieveKeepSaid : Prop := fnSieveKeepRow.holds Try.pinned (OpenSpec.ofChange fnSieveKeepSpec)

/-- ITS FALSE NEIGHBOUR: 'it returns false'. Refute it at one input. -/
def fnSieveKeepWrong : ChangeSpec := { name := "fnSieveKeep", fn := fun _ => fun
  | [d1, d2] => { results := [.lit (.bool false)], args := [d1, d2] }
  | _ => none }
def FnSieveKeepWrongFalsely : Prop := fnSieveKeepRow.holds Try.pinned (OpenSpec.ofChange fnSieveKeepWrong)

/-- 'laws.FnExactSieveOk': WHATEVER THE INPUT: true; the input reads as it did. -/
def fnExactSieveOkSpec : ChangeSpec := { name := "fnExactSieveOk", fn := fun _ => fun
  | [d] => { results := [.lit (.bool true)], args := [d] }
  | _ => none }
def fnExactSieveOkRow : OpenClaim := { program := "ytifgcajpkgamgaa", sum := "f914941b4ae747150ef25788fadac680553afdcf338cfe17be33ce4c0b296f35", func := "loop.example/temse/laws.FnExactSieveOk", spec := "fnExactSieveOk", inPlace := ["internal/bytealg.CountString", "internal/bytealg.IndexByteString", "internal/bytealg.IndexString", "internal/abi.NoEscape"], recurses := true, named := ["internal/bytealg.MaxLen"], apart := false }
def FnExactSieveOkSaid : Prop := fnExactSieveOkRow.holds Try.pinned (OpenSpec.ofChange fnExactSieveOkSpec)

/-- ITS FALSE NEIGHBOUR: 'it returns false'. Refute it at one input. -/
def fnExactSieveOkWrong : ChangeSpec := { name := "fnExactSieveOk", fn := fun _ => fun
  | [d] => { results := [.lit (.bool false)], args := [d] }
  | _ => none }
def FnExactSieveOkWrongFalsely : Prop := fnExactSieveOkRow.holds Try.pinned (OpenSpec.ofChange fnExactSieveOkWrong)

/-- 'laws.FnSieveExact': WHATEVER THE INPUT: true; the input reads as it did. -/
def fnSieveExactSpec : ChangeSpec := { name := "fnSieveExact", fn := fun _ => fun
  | [d1, d2] => { results := [.lit (.bool true)], args := [d1, d2] }
  | _ => none }
def fnSieveExactRow : OpenClaim := { program := "ytifgcajpkgamgaa", sum := "f914941b4ae747150ef25788fadac680553afdcf338cfe17be33ce4c0b296f35", func := "loop.example/temse/laws.FnSieveExact", spec := "fnSieveExact", inPlace := ["internal/abi.NoEscape", "internal/bytealg.CountString", "internal/bytealg.IndexByteString", "internal/bytealg.IndexString"], recurses := true, named := ["internal/bytealg.MaxLen"], apart := false }
def FnSieveExactSaid : Prop := fnSieveExactRow.holds Try.pinned (OpenSpec.ofChange fnSieveExactSpec)

/-- ITS FALSE NEIGHBOUR: 'it returns false'. Refute it at one input. -/
def fnSieveExactWrong : ChangeSpec := { name := "fnSieveExact", fn := fun _ => fun
  | [d1, d2] => { results := [.lit (.bool false)], args := [d1, d2] }
  | _ => none }
def FnSieveExactWrongFalsely : Prop := fnSieveExactRow.holds Try.pinned (OpenSpec.ofChange fnSieveExactWrong)

/-- 'laws.FnSieveWhole': WHATEVER THE INPUT: true; the input reads as it did. -/
def fnSieveWholeSpec : ChangeSpec := { name := "fnSieveWhole", fn := fun _ => fun
  | [d] => { results := [.lit (.bool true)], args := [d] }
  | _ => none }
def fnSieveWholeRow : OpenClaim := { program := "ytifgcajpkgamgaa", sum := "f914941b4ae747150ef25788fadac680553afdcf338cfe17be33ce4c0b296f35", func := "loop.example/temse/laws.FnSieveWhole", spec := "fnSieveWhole", inPlace := ["internal/abi.NoEscape", "internal/bytealg.CountString", "internal/bytealg.IndexByteString", "internal/bytealg.IndexString"], recurses := true, named := ["internal/bytealg.MaxLen"], apart := false }
def FnSieveWholeSaid : Prop := fnSieveWholeRow.holds Try.pinned (OpenSpec.ofChange fnSieveWholeSpec)

/-- ITS FALSE NEIGHBOUR: 'it returns false'. Refute it at one input. -/
def fnSieveWholeWrong : ChangeSpec := { name := "fnSieveWhole", fn := fun _ => fun
  | [d] => { results := [.lit (.bool false)], args := [d] }
  | _ => none }
def FnSieveWholeWrongFalsely : Prop := fnSieveWholeRow.holds Try.pinned (OpenSpec.ofChange fnSieveWholeWrong)

/-- 'laws.FnSieveNever': WHATEVER THE INPUT: true; the input reads as it did. -/
def fnSieveNeverSpec : ChangeSpec := { name := "fnSieveNever", fn := fun _ => fun
  | [d] => { results := [.lit (.bool true)], args := [d] }
  | _ => none }
def fnSieveNeverRow : OpenClaim := { program := "ytifgcajpkgamgaa", sum := "f914941b4ae747150ef25788fadac680553afdcf338cfe17be33ce4c0b296f35", func := "loop.example/temse/laws.FnSieveNever", spec := "fnSieveNever", inPlace := ["internal/abi.NoEscape", "internal/bytealg.CountString", "internal/bytealg.IndexByteString", "internal/bytealg.IndexString"], recurses := true, named := ["internal/bytealg.MaxLen"], apart := false }
def FnSieveNeverSaid : Prop := fnSieveNeverRow.holds Try.pinned (OpenSpec.ofChange fnSieveNeverSpec)

/-- ITS FALSE NEIGHBOUR: 'it returns false'. Refute it at one input. -/
def fnSieveNeverWrong : ChangeSpec := { name := "fnSieveNever", fn := fun _ => fun
  | [d] => { results := [.lit (.bool false)], args := [d] }
  | _ => none }
def FnSieveNeverWrongFalsely : Prop := fnSieveNeverRow.holds Try.pinned (OpenSpec.ofChange fnSieveNeverWrong)

/-- 'laws.FnExactSieveSize': WHATEVER THE INPUT: true; the input reads as it did. -/
def fnExactSieveSizeSpec : ChangeSpec := { name := "fnExactSieveSize", fn := fun _ => fun
  | [d] => { results := [.lit (.bool true)], args := [d] }
  | _ => none }
def fnExactSieveSizeRow : OpenClaim := { program := "ytifgcajpkgamgaa", sum := "f914941b4ae747150ef25788fadac680553afdcf338cfe17be33ce4c0b296f35", func := "loop.example/temse/laws.FnExactSieveSize", spec := "fnExactSieveSize", inPlace := ["internal/bytealg.CountString", "internal/bytealg.IndexByteString", "internal/bytealg.IndexString", "internal/abi.NoEscape"], recurses := true, named := ["internal/bytealg.MaxLen"], apart := false }
def FnExactSieveSizeSaid : Prop := fnExactSieveSizeRow.holds Try.pinned (OpenSpec.ofChange fnExactSieveSizeSpec)

/-- ITS FALSE NEIGHBOUR: 'it returns false'. Refute it at one input. -/
def fnExactSieveSizeWrong : ChangeSpec := { name := "fnExactSieveSize", fn := fun _ => fun
  | [d] => { results := [.lit (.bool false)], args := [d] }
  | _ => none }
def FnExactSieveSizeWrongFalsely : Prop := fnExactSieveSizeRow.holds Try.pinned (OpenSpec.ofChange fnExactSieveSizeWrong)

/-- 'laws.FnExactSieveHeads': WHATEVER THE INPUT: true; the input reads as it did. -/
def fnExactSieveHeadsSpec : ChangeSpec := { name := "fnExactSieveHeads", fn := fun _ => fun
  | [d] => { results := [.lit (.bool true)], args := [d] }
  | _ => none }
def fnExactSieveHeadsRow : OpenClaim := { program := "ytifgcajpkgamgaa", sum := "f914941b4ae747150ef25788fadac680553afdcf338cfe17be33ce4c0b296f35", func := "loop.example/temse/laws.FnExactSieveHeads", spec := "fnExactSieveHeads", inPlace := ["internal/bytealg.CountString", "internal/bytealg.IndexByteString", "internal/bytealg.IndexString", "internal/abi.NoEscape"], recurses := true, named := ["internal/bytealg.MaxLen"], apart := false }
def FnExactSieveHeadsSaid : Prop := fnExactSieveHeadsRow.holds Try.pinned (OpenSpec.ofChange fnExactSieveHeadsSpec)

/-- ITS FALSE NEIGHBOUR: 'it returns false'. Refute it at one input. -/
def fnExactSieveHeadsWrong : ChangeSpec := { name := "fnExactSieveHeads", fn := fun _ => fun
  | [d] => { results := [.lit (.bool false)], args := [d] }
  | _ => none }
def FnExactSieveHeadsWrongFalsely : Prop := fnExactSieveHeadsRow.holds Try.pinned (OpenSpec.ofChange fnExactSieveHeadsWrong)

/-- 'laws.FnSieveOk': WHATEVER THE INPUT: true; the input reads as it did. -/
def fnSieveOkSpec : ChangeSpec := { name := "fnSieveOk", fn := fun _ => fun
  | [d] => { results := [.lit (.bool true)], args := [d] }
  | _ => none }
def fnSieveOkRow : OpenClaim := { program := "ytifgcajpkgamgaa", sum := "f914941b4ae747150ef25788fadac680553afdcf338cfe17be33ce4c0b296f35", func := "loop.example/temse/laws.FnSieveOk", spec := "fnSieveOk", inPlace := ["internal/bytealg.CountString", "internal/bytealg.IndexByteString", "internal/bytealg.IndexString", "internal/abi.NoEscape"], recurses := true, named := ["internal/bytealg.MaxLen"], apart := false }
def FnSieveOkSaid : Prop := fnSieveOkRow.holds Try.pinned (OpenSpec.ofChange fnSieveOkSpec)

/-- ITS FALSE NEIGHBOUR: 'it returns false'. Refute it at one input. -/
def fnSieveOkWrong : ChangeSpec := { name := "fnSieveOk", fn := fun _ => fun
  | [d] => { results := [.lit (.bool false)], args := [d] }
  | _ => none }
def FnSieveOkWrongFalsely : Prop := fnSieveOkRow.holds Try.pinned (OpenSpec.ofChange fnSieveOkWrong)

/-- 'laws.FnSieveSize': WHATEVER THE INPUT: true; the input reads as it did. -/
def fnSieveSizeSpec : ChangeSpec := { name := "fnSieveSize", fn := fun _ => fun
  | [d] => { results := [.lit (.bool true)], args := [d] }
  | _ => none }
def fnSieveSizeRow : OpenClaim := { program := "ytifgcajpkgamgaa", sum := "f914941b4ae747150ef25788fadac680553afdcf338cfe17be33ce4c0b296f35", func := "loop.example/temse/laws.FnSieveSize", spec := "fnSieveSize", inPlace := ["internal/bytealg.CountString", "internal/bytealg.IndexByteString", "internal/bytealg.IndexString", "internal/abi.NoEscape"], recurses := true, named := ["internal/bytealg.MaxLen"], apart := false }
def FnSieveSizeSaid : Prop := fnSieveSizeRow.holds Try.pinned (OpenSpec.ofChange fnSieveSizeSpec)

/-- ITS FALSE NEIGHBOUR: 'it returns false'. Refute it at one input. -/
def fnSieveSizeWrong : ChangeSpec := { name := "fnSieveSize", fn := fun _ => fun
  | [d] => { results := [.lit (.bool false)], args := [d] }
  | _ => none }
def FnSieveSizeWrongFalsely : Prop := fnSieveSizeRow.holds Try.pinned (OpenSpec.ofChange fnSieveSizeWrong)

/-- 'laws.FnSieveSame': WHATEVER THE INPUT: true; the input reads as it did. -/
def fnSieveSameSpec : ChangeSpec := { name := "fnSieveSame", fn := fun _ => fun
  | [d] => { results := [.lit (.bool true)], args := [d] }
  | _ => none }
def fnSieveSameRow : OpenClaim := { program := "ytifgcajpkgamgaa", sum := "f914941b4ae747150ef25788fadac680553afdcf338cfe17be33ce4c0b296f35", func := "loop.example/temse/laws.FnSieveSame", spec := "fnSieveSame", inPlace := ["internal/bytealg.CountString", "internal/bytealg.IndexByteString", "internal/bytealg.IndexString", "internal/abi.NoEscape"], recurses := true, named := ["internal/bytealg.MaxLen"], apart := false }
def FnSieveSameSaid : Prop := fnSieveSameRow.holds Try.pinned (OpenSpec.ofChange fnSieveSameSpec)

/-- ITS FALSE NEIGHBOUR: 'it returns false'. Refute it at one input. -/
def fnSieveSameWrong : ChangeSpec := { name := "fnSieveSame", fn := fun _ => fun
  | [d] => { results := [.lit (.bool false)], args := [d] }
  | _ => none }
def FnSieveSameWrongFalsely : Prop := fnSieveSameRow.holds Try.pinned (OpenSpec.ofChange fnSieveSameWrong)

/-- 'laws.FnExactSieveSeek': WHATEVER THE INPUT: true; the input reads as it did. -/
def fnExactSieveSeekSpec : ChangeSpec := { name := "fnExactSieveSeek", fn := fun _ => fun
  | [d1, d2] => { results := [.lit (.bool true)], args := [d1, d2] }
  | _ => none }
def fnExactSieveSeekRow : OpenClaim := { program := "ytifgcajpkgamgaa", sum := "f914941b4ae747150ef25788fadac680553afdcf338cfe17be33ce4c0b296f35", func := "loop.example/temse/laws.FnExactSieveSeek", spec := "fnExactSieveSeek", inPlace := ["internal/bytealg.CountString", "internal/bytealg.IndexByteString", "internal/bytealg.IndexString", "internal/abi.NoEscape"], recurses := true, named := ["internal/bytealg.MaxLen"], apart := false }
def FnExactSieveSeekSaid : Prop := fnExactSieveSeekRow.holds Try.pinned (OpenSpec.ofChange fnExactSieveSeekSpec)

/-- ITS FALSE NEIGHBOUR: 'it returns false'. Refute it at one input. -/
def fnExactSieveSeekWrong : ChangeSpec := { name := "fnExactSieveSeek", fn := fun _ => fun
  | [d1, d2] => { results := [.lit (.bool false)], args := [d1, d2] }
  | _ => none }
def FnExactSieveSeekWrongFalsely : Prop := fnExactSieveSeekRow.holds Try.pinned (OpenSpec.ofChange fnExactSieveSeekWrong)

/-- 'laws.FnExactSieveMeets': WHATEVER THE INPUT: true; the input reads as it did. -/
def fnExactSieveMeetsSpec : ChangeSpec := { name := "fnExactSieveMeets", fn := fun _ => fun
  | [d1, d2, d3] => { results := [.lit (.bool true)], args := [d1, d2, d3] }
  | _ => none }
def fnExactSieveMeetsRow : OpenClaim := { program := "ytifgcajpkgamgaa", sum := "f914941b4ae747150ef25788fadac680553afdcf338cfe17be33ce4c0b296f35", func := "loop.example/temse/laws.FnExactSieveMeets", spec := "fnExactSieveMeets", inPlace := ["internal/bytealg.CountString", "internal/bytealg.IndexByteString", "internal/bytealg.IndexString", "internal/abi.NoEscape"], recurses := true, named := ["internal/bytealg.MaxLen"], apart := false }
def FnExactSieveMeetsSaid : Prop := fnExactSieveMeetsRow.holds Try.pinned (OpenSpec.ofChange fnExactSieveMeetsSpec)

/-- ITS FALSE NEIGHBOUR: 'it returns false'. Refute it at one input. -/
def fnExactSieveMeetsWrong : ChangeSpec := { name := "fnExactSieveMeets", fn := fun _ => fun
  | [d1, d2, d3] => { results := [.lit (.bool false)], args := [d1, d2, d3] }
  | _ => none }
def FnExactSieveMeetsWrongFalsely : Prop := fnExactSieveMeetsRow.holds Try.pinned (OpenSpec.ofChange fnExactSieveMeetsWrong)

/-- 'laws.FnExactSieveHas': WHATEVER THE INPUT: true; the input reads as it did. -/
def fnExactSieveHasSpec : ChangeSpec := { name := "fnExactSieveHas", fn := fun _ => fun
  | [d1, d2] => { results := [.lit (.bool true)], args := [d1, d2] }
  | _ => none }
def fnExactSieveHasRow : OpenClaim := { program := "ytifgcajpkgamgaa", sum := "f914941b4ae747150ef25788fadac680553afdcf338cfe17be33ce4c0b296f35", func := "loop.example/temse/laws.FnExactSieveHas", spec := "fnExactSieveHas", inPlace := ["internal/bytealg.CountString", "internal/bytealg.IndexByteString", "internal/bytealg.IndexString", "internal/abi.NoEscape"], recurses := true, named := ["internal/bytealg.MaxLen"], apart := false }
def FnExactSieveHasSaid : Prop := fnExactSieveHasRow.holds Try.pinned (OpenSpec.ofChange fnExactSieveHasSpec)

/-- ITS FALSE NEIGHBOUR: 'it returns false'. Refute it at one input. -/
def fnExactSieveHasWrong : ChangeSpec := { name := "fnExactSieveHas", fn := fun _ => fun
  | [d1, d2] => { results := [.lit (.bool false)], args := [d1, d2] }
  | _ => none }
def FnExactSieveHasWrongFalsely : Prop := fnExactSieveHasRow.holds Try.pinned (OpenSpec.ofChange fnExactSieveHasWrong)

/-- 'laws.FnSieveMeetsMore': WHATEVER THE INPUT: true; the input reads as it did. -/
def fnSieveMeetsMoreSpec : ChangeSpec := { name := "fnSieveMeetsMore", fn := fun _ => fun
  | [d1, d2] => { results := [.lit (.bool true)], args := [d1, d2] }
  | _ => none }
def fnSieveMeetsMoreRow : OpenClaim := { program := "ytifgcajpkgamgaa", sum := "f914941b4ae747150ef25788fadac680553afdcf338cfe17be33ce4c0b296f35", func := "loop.example/temse/laws.FnSieveMeetsMore", spec := "fnSieveMeetsMore", inPlace := ["internal/bytealg.CountString", "internal/bytealg.IndexByteString", "internal/bytealg.IndexString", "internal/abi.NoEscape"], recurses := true, named := ["internal/bytealg.MaxLen"], apart := false }
def FnSieveMeetsMoreSaid : Prop := fnSieveMeetsMoreRow.holds Try.pinned (OpenSpec.ofChange fnSieveMeetsMoreSpec)

/-- ITS FALSE NEIGHBOUR: 'it returns false'. Refute it at one input. -/
def fnSieveMeetsMoreWrong : ChangeSpec := { name := "fnSieveMeetsMore", fn := fun _ => fun
  | [d1, d2] => { results := [.lit (.bool false)], args := [d1, d2] }
  | _ => none }
def FnSieveMeetsMoreWrongFalsely : Prop := fnSieveMeetsMoreRow.holds Try.pinned (OpenSpec.ofChange fnSieveMeetsMoreWrong)

/-- 'laws.FnSieveSeek': WHATEVER THE INPUT: true; the input reads as it did. -/
def fnSieveSeekSpec : ChangeSpec := { name := "fnSieveSeek", fn := fun _ => fun
  | [d] => { results := [.lit (.bool true)], args := [d] }
  | _ => none }
def fnSieveSeekRow : OpenClaim := { program := "ytifgcajpkgamgaa", sum := "f914941b4ae747150ef25788fadac680553afdcf338cfe17be33ce4c0b296f35", func := "loop.example/temse/laws.FnSieveSeek", spec := "fnSieveSeek", inPlace := ["internal/bytealg.CountString", "internal/bytealg.IndexByteString", "internal/bytealg.IndexString", "internal/abi.NoEscape"], recurses := true, named := ["internal/bytealg.MaxLen"], apart := false }
def FnSieveSeekSaid : Prop := fnSieveSeekRow.holds Try.pinned (OpenSpec.ofChange fnSieveSeekSpec)

/-- ITS FALSE NEIGHBOUR: 'it returns false'. Refute it at one input. -/
def fnSieveSeekWrong : ChangeSpec := { name := "fnSieveSeek", fn := fun _ => fun
  | [d] => { results := [.lit (.bool false)], args := [d] }
  | _ => none }
def FnSieveSeekWrongFalsely : Prop := fnSieveSeekRow.holds Try.pinned (OpenSpec.ofChange fnSieveSeekWrong)

/-- 'laws.FnSieveHas': WHATEVER THE INPUT: true; the input reads as it did. -/
def fnSieveHasSpec : ChangeSpec := { name := "fnSieveHas", fn := fun _ => fun
  | [d] => { results := [.lit (.bool true)], args := [d] }
  | _ => none }
def fnSieveHasRow : OpenClaim := { program := "ytifgcajpkgamgaa", sum := "f914941b4ae747150ef25788fadac680553afdcf338cfe17be33ce4c0b296f35", func := "loop.example/temse/laws.FnSieveHas", spec := "fnSieveHas", inPlace := ["internal/bytealg.CountString", "internal/bytealg.IndexByteString", "internal/bytealg.IndexString", "internal/abi.NoEscape"], recurses := true, named := ["internal/bytealg.MaxLen"], apart := false }
def FnSieveHasSaid : Prop := fnSieveHasRow.holds Try.pinned (OpenSpec.ofChange fnSieveHasSpec)

/-- ITS FALSE NEIGHBOUR: 'it returns false'. Refute it at one input. -/
def fnSieveHasWrong : ChangeSpec := { name := "fnSieveHas", fn := fun _ => fun
  | [d] => { results := [.lit (.bool false)], args := [d] }
  | _ => none }
def FnSieveHasWrongFalsely : Prop := fnSieveHasRow.holds Try.pinned (OpenSpec.ofChange fnSieveHasWrong)

/-- 'laws.FnSieveMeetsHas': WHATEVER THE INPUT: true; the input reads as it did. -/
def fnSieveMeetsHasSpec : ChangeSpec := { name := "fnSieveMeetsHas", fn := fun _ => fun
  | [d] => { results := [.lit (.bool true)], args := [d] }
  | _ => none }
def fnSieveMeetsHasRow : OpenClaim := { program := "ytifgcajpkgamgaa", sum := "f914941b4ae747150ef25788fadac680553afdcf338cfe17be33ce4c0b296f35", func := "loop.example/temse/laws.FnSieveMeetsHas", spec := "fnSieveMeetsHas", inPlace := ["internal/bytealg.CountString", "internal/bytealg.IndexByteString", "internal/bytealg.IndexString", "internal/abi.NoEscape"], recurses := true, named := ["internal/bytealg.MaxLen"], apart := false }
def FnSieveMeetsHasSaid : Prop := fnSieveMeetsHasRow.holds Try.pinned (OpenSpec.ofChange fnSieveMeetsHasSpec)

/-- ITS FALSE NEIGHBOUR: 'it returns false'. Refute it at one input. -/
def fnSieveMeetsHasWrong : ChangeSpec := { name := "fnSieveMeetsHas", fn := fun _ => fun
  | [d] => { results := [.lit (.bool false)], args := [d] }
  | _ => none }
def FnSieveMeetsHasWrongFalsely : Prop := fnSieveMeetsHasRow.holds Try.pinned (OpenSpec.ofChange fnSieveMeetsHasWrong)

/-- 'laws.FnSieveGap': WHATEVER THE INPUT: true; the input reads as it did. -/
def fnSieveGapSpec : ChangeSpec := { name := "fnSieveGap", fn := fun _ => fun
  | [d1, d2] => { results := [.lit (.bool true)], args := [d1, d2] }
  | _ => none }
def fnSieveGapRow : OpenClaim := { program := "ytifgcajpkgamgaa", sum := "f914941b4ae747150ef25788fadac680553afdcf338cfe17be33ce4c0b296f35", func := "loop.example/temse/laws.FnSieveGap", spec := "fnSieveGap", inPlace := ["internal/bytealg.CountString", "internal/bytealg.IndexByteString", "internal/bytealg.IndexString", "internal/abi.NoEscape"], recurses := true, named := ["internal/bytealg.MaxLen"], apart := false }
def FnSieveGapSaid : Prop := fnSieveGapRow.holds Try.pinned (OpenSpec.ofChange fnSieveGapSpec)

/-- ITS FALSE NEIGHBOUR: 'it returns false'. Refute it at one input. -/
def fnSieveGapWrong : ChangeSpec := { name := "fnSieveGap", fn := fun _ => fun
  | [d1, d2] => { results := [.lit (.bool false)], args := [d1, d2] }
  | _ => none }
def FnSieveGapWrongFalsely : Prop := fnSieveGapRow.holds Try.pinned (OpenSpec.ofChange fnSieveGapWrong)

/- THE SECOND FORM. 'bulk': how many values and letters a reading holds, each counted each time it is reached (what is shared counts as often as it is met; a slice's spare places count too). A statement '..UptoSaid' is the law's where the arguments, and the package variables that the reading takes, are together of bulk at most 1048576: NARROWER than '..Said'. Prove '..Said' where nothing that the law and all that it calls make is longer than what came in: it says more and counts as full. Else prove '..UptoSaid'. A law counts once. -/
mutual
def uptoBulk {H : Type} : DataW H → Nat
  | .lit (.string bytes) => bytes.length + 1
  | .lit _ => 1
  | .nil => 1
  | .ptr d => uptoBulk d + 1
  | .slice elems spare => uptoBulkAll elems + uptoBulkAll spare + 1
  | .agg parts => uptoBulkAll parts + 1
  | .iface _ d => uptoBulk d + 1
  | .map entries => uptoBulkEntries entries + 1
  | .held _ => 1
def uptoBulkAll {H : Type} : List (DataW H) → Nat
  | [] => 0
  | d :: r => uptoBulk d + uptoBulkAll r
def uptoBulkEntries {H : Type} : List (Lit × DataW H) → Nat
  | [] => 0
  | x :: r => uptoBulkEntry x + uptoBulkEntries r
def uptoBulkEntry {H : Type} : Lit × DataW H → Nat
  | (.string bytes, d) => bytes.length + uptoBulk d + 1
  | (_, d) => uptoBulk d + 1
 end
def uptoSmall : (H : Type) → List (DataW H) → Bool := fun _ ds => decide (uptoBulkAll ds ≤ 1048576)
def OpenSpec.upto (s : _root_.Go.ChangeSpec) : _root_.Go.OpenSpec := { _root_.Go.OpenSpec.ofChange s with cond := some uptoSmall }

/-- 'laws.FnSieveEmpty', WHERE WHAT IT READS IS OF BULK AT MOST 1048576: true; the input reads as it did. -/
def fnSieveEmptyUptoRow : OpenClaim := { program := "ytifgcajpkgamgaa", sum := "f914941b4ae747150ef25788fadac680553afdcf338cfe17be33ce4c0b296f35", func := "loop.example/temse/laws.FnSieveEmpty", spec := "fnSieveEmpty", inPlace := ["internal/bytealg.CountString", "internal/bytealg.IndexByteString", "internal/bytealg.IndexString", "internal/abi.NoEscape"], recurses := true, named := ["internal/bytealg.MaxLen"], apart := false, narrowed := true }
def FnSieveEmptyUptoSaid : Prop := fnSieveEmptyUptoRow.holds Try.pinned (OpenSpec.upto fnSieveEmptySpec)

/-- 'laws.FnSieveMeets', WHERE WHAT IT READS IS OF BULK AT MOST 1048576: true; the input reads as it did. -/
def fnSieveMeetsUptoRow : OpenClaim := { program := "ytifgcajpkgamgaa", sum := "f914941b4ae747150ef25788fadac680553afdcf338cfe17be33ce4c0b296f35", func := "loop.example/temse/laws.FnSieveMeets", spec := "fnSieveMeets", inPlace := ["internal/abi.NoEscape", "internal/bytealg.CountString", "internal/bytealg.IndexByteString", "internal/bytealg.IndexString"], recurses := true, named := ["internal/bytealg.MaxLen"], apart := false, narrowed := true }
def FnSieveMeetsUptoSaid : Prop := fnSieveMeetsUptoRow.holds Try.pinned (OpenSpec.upto fnSieveMeetsSpec)

/-- 'laws.FnSieveMore', WHERE WHAT IT READS IS OF BULK AT MOST 1048576: true; the input reads as it did. -/
def fnSieveMoreUptoRow : OpenClaim := { program := "ytifgcajpkgamgaa", sum := "f914941b4ae747150ef25788fadac680553afdcf338cfe17be33ce4c0b296f35", func := "loop.example/temse/laws.FnSieveMore", spec := "fnSieveMore", inPlace := ["internal/abi.NoEscape", "internal/bytealg.CountString", "internal/bytealg.IndexByteString", "internal/bytealg.IndexString"], recurses := true, named := ["internal/bytealg.MaxLen"], apart := false, narrowed := true }
def FnSieveMoreUptoSaid : Prop := fnSieveMoreUptoRow.holds Try.pinned (OpenSpec.upto fnSieveMoreSpec)

/-- 'laws.FnSieveApart', WHERE WHAT IT READS IS OF BULK AT MOST 1048576: true; the input reads as it did. -/
def fnSieveApartUptoRow : OpenClaim := { program := "ytifgcajpkgamgaa", sum := "f914941b4ae747150ef25788fadac680553afdcf338cfe17be33ce4c0b296f35", func := "loop.example/temse/laws.FnSieveApart", spec := "fnSieveApart", inPlace := ["internal/abi.NoEscape", "internal/bytealg.CountString", "internal/bytealg.IndexByteString", "internal/bytealg.IndexString"], recurses := true, named := ["internal/bytealg.MaxLen"], apart := false, narrowed := true }
def FnSieveApartUptoSaid : Prop := fnSieveApartUptoRow.holds Try.pinned (OpenSpec.upto fnSieveApartSpec)

/-- 'laws.FnSieveHeads', WHERE WHAT IT READS IS OF BULK AT MOST 1048576: true; the input reads as it did. -/
def fnSieveHeadsUptoRow : OpenClaim := { program := "ytifgcajpkgamgaa", sum := "f914941b4ae747150ef25788fadac680553afdcf338cfe17be33ce4c0b296f35", func := "loop.example/temse/laws.FnSieveHeads", spec := "fnSieveHeads", inPlace := ["internal/abi.NoEscape", "internal/bytealg.CountString", "internal/bytealg.IndexByteString", "internal/bytealg.IndexString"], recurses := true, named := ["internal/bytealg.MaxLen"], apart := false, narrowed := true }
def FnSieveHeadsUptoSaid : Prop := fnSieveHeadsUptoRow.holds Try.pinned (OpenSpec.upto fnSieveHeadsSpec)

/-- 'laws.FnSieveSeekKey', WHERE WHAT IT READS IS OF BULK AT MOST 1048576: true; the input reads as it did. -/
def fnSieveSeekKeyUptoRow : OpenClaim := { program := "ytifgcajpkgamgaa", sum := "f914941b4ae747150ef25788fadac680553afdcf338cfe17be33ce4c0b296f35", func := "loop.example/temse/laws.FnSieveSeekKey", spec := "fnSieveSeekKey", inPlace := ["internal/abi.NoEscape", "internal/bytealg.CountString", "internal/bytealg.IndexByteString", "internal/bytealg.IndexString"], recurses := true, named := ["internal/bytealg.MaxLen"], apart := false, narrowed := true }
def FnSieveSeekKeyUptoSaid : Prop := fnSieveSeekKeyUptoRow.holds Try.pinned (OpenSpec.upto fnSieveSeekKeySpec)

/-- 'laws.FnSieveKeep', WHERE WHAT IT READS IS OF BULK AT MOST 1048576: true; the input reads as it did. -/
def fnSieveKeepUptoRow : OpenClaim := { program := "ytifgcajpkgamgaa", sum := "f914941b4ae747150ef25788fadac680553afdcf338cfe17be33ce4c0b296f35", func := "loop.example/temse/laws.FnSieveKeep", spec := "fnSieveKeep", inPlace := ["internal/abi.NoEscape", "internal/bytealg.CountString", "internal/bytealg.IndexByteString", "internal/bytealg.IndexString"], recurses := true, named := ["internal/bytealg.MaxLen"], apart := false, narrowed := true }
def FnSieveKeepUptoSaid : Prop := fnSieveKeepUptoRow.holds Try.pinned (OpenSpec.upto fnSieveKeepSpec)

/-- 'laws.FnExactSieveOk', WHERE WHAT IT READS IS OF BULK AT MOST 1048576: true; the input reads as it did. -/
def fnExactSieveOkUptoRow : OpenClaim := { program := "ytifgcajpkgamgaa", sum := "f914941b4ae747150ef25788fadac680553afdcf338cfe17be33ce4c0b296f35", func := "loop.example/temse/laws.FnExactSieveOk", spec := "fnExactSieveOk", inPlace := ["internal/bytealg.CountString", "internal/bytealg.IndexByteString", "internal/bytealg.IndexString", "internal/abi.NoEscape"], recurses := true, named := ["internal/bytealg.MaxLen"], apart := false, narrowed := true }
def FnExactSieveOkUptoSaid : Prop := fnExactSieveOkUptoRow.holds Try.pinned (OpenSpec.upto fnExactSieveOkSpec)

/-- 'laws.FnSieveExact', WHERE WHAT IT READS IS OF BULK AT MOST 1048576: true; the input reads as it did. -/
def fnSieveExactUptoRow : OpenClaim := { program := "ytifgcajpkgamgaa", sum := "f914941b4ae747150ef25788fadac680553afdcf338cfe17be33ce4c0b296f35", func := "loop.example/temse/laws.FnSieveExact", spec := "fnSieveExact", inPlace := ["internal/abi.NoEscape", "internal/bytealg.CountString", "internal/bytealg.IndexByteString", "internal/bytealg.IndexString"], recurses := true, named := ["internal/bytealg.MaxLen"], apart := false, narrowed := true }
def FnSieveExactUptoSaid : Prop := fnSieveExactUptoRow.holds Try.pinned (OpenSpec.upto fnSieveExactSpec)

/-- 'laws.FnSieveWhole', WHERE WHAT IT READS IS OF BULK AT MOST 1048576: true; the input reads as it did. -/
def fnSieveWholeUptoRow : OpenClaim := { program := "ytifgcajpkgamgaa", sum := "f914941b4ae747150ef25788fadac680553afdcf338cfe17be33ce4c0b296f35", func := "loop.example/temse/laws.FnSieveWhole", spec := "fnSieveWhole", inPlace := ["internal/abi.NoEscape", "internal/bytealg.CountString", "internal/bytealg.IndexByteString", "internal/bytealg.IndexString"], recurses := true, named := ["internal/bytealg.MaxLen"], apart := false, narrowed := true }
def FnSieveWholeUptoSaid : Prop := fnSieveWholeUptoRow.holds Try.pinned (OpenSpec.upto fnSieveWholeSpec)

/-- 'laws.FnSieveNever', WHERE WHAT IT READS IS OF BULK AT MOST 1048576: true; the input reads as it did. -/
def fnSieveNeverUptoRow : OpenClaim := { program := "ytifgcajpkgamgaa", sum := "f914941b4ae747150ef25788fadac680553afdcf338cfe17be33ce4c0b296f35", func := "loop.example/temse/laws.FnSieveNever", spec := "fnSieveNever", inPlace := ["internal/abi.NoEscape", "internal/bytealg.CountString", "internal/bytealg.IndexByteString", "internal/bytealg.IndexString"], recurses := true, named := ["internal/bytealg.MaxLen"], apart := false, narrowed := true }
def FnSieveNeverUptoSaid : Prop := fnSieveNeverUptoRow.holds Try.pinned (OpenSpec.upto fnSieveNeverSpec)

/-- 'laws.FnExactSieveSize', WHERE WHAT IT READS IS OF BULK AT MOST 1048576: true; the input reads as it did. -/
def fnExactSieveSizeUptoRow : OpenClaim := { program := "ytifgcajpkgamgaa", sum := "f914941b4ae747150ef25788fadac680553afdcf338cfe17be33ce4c0b296f35", func := "loop.example/temse/laws.FnExactSieveSize", spec := "fnExactSieveSize", inPlace := ["internal/bytealg.CountString", "internal/bytealg.IndexByteString", "internal/bytealg.IndexString", "internal/abi.NoEscape"], recurses := true, named := ["internal/bytealg.MaxLen"], apart := false, narrowed := true }
def FnExactSieveSizeUptoSaid : Prop := fnExactSieveSizeUptoRow.holds Try.pinned (OpenSpec.upto fnExactSieveSizeSpec)

/-- 'laws.FnExactSieveHeads', WHERE WHAT IT READS IS OF BULK AT MOST 1048576: true; the input reads as it did. -/
def fnExactSieveHeadsUptoRow : OpenClaim := { program := "ytifgcajpkgamgaa", sum := "f914941b4ae747150ef25788fadac680553afdcf338cfe17be33ce4c0b296f35", func := "loop.example/temse/laws.FnExactSieveHeads", spec := "fnExactSieveHeads", inPlace := ["internal/bytealg.CountString", "internal/bytealg.IndexByteString", "internal/bytealg.IndexString", "internal/abi.NoEscape"], recurses := true, named := ["internal/bytealg.MaxLen"], apart := false, narrowed := true }
def FnExactSieveHeadsUptoSaid : Prop := fnExactSieveHeadsUptoRow.holds Try.pinned (OpenSpec.upto fnExactSieveHeadsSpec)

/-- 'laws.FnSieveOk', WHERE WHAT IT READS IS OF BULK AT MOST 1048576: true; the input reads as it did. -/
def fnSieveOkUptoRow : OpenClaim := { program := "ytifgcajpkgamgaa", sum := "f914941b4ae747150ef25788fadac680553afdcf338cfe17be33ce4c0b296f35", func := "loop.example/temse/laws.FnSieveOk", spec := "fnSieveOk", inPlace := ["internal/bytealg.CountString", "internal/bytealg.IndexByteString", "internal/bytealg.IndexString", "internal/abi.NoEscape"], recurses := true, named := ["internal/bytealg.MaxLen"], apart := false, narrowed := true }
def FnSieveOkUptoSaid : Prop := fnSieveOkUptoRow.holds Try.pinned (OpenSpec.upto fnSieveOkSpec)

/-- 'laws.FnSieveSize', WHERE WHAT IT READS IS OF BULK AT MOST 1048576: true; the input reads as it did. -/
def fnSieveSizeUptoRow : OpenClaim := { program := "ytifgcajpkgamgaa", sum := "f914941b4ae747150ef25788fadac680553afdcf338cfe17be33ce4c0b296f35", func := "loop.example/temse/laws.FnSieveSize", spec := "fnSieveSize", inPlace := ["internal/bytealg.CountString", "internal/bytealg.IndexByteString", "internal/bytealg.IndexString", "internal/abi.NoEscape"], recurses := true, named := ["internal/bytealg.MaxLen"], apart := false, narrowed := true }
def FnSieveSizeUptoSaid : Prop := fnSieveSizeUptoRow.holds Try.pinned (OpenSpec.upto fnSieveSizeSpec)

/-- 'laws.FnSieveSame', WHERE WHAT IT READS IS OF BULK AT MOST 1048576: true; the input reads as it did. -/
def fnSieveSameUptoRow : OpenClaim := { program := "ytifgcajpkgamgaa", sum := "f914941b4ae747150ef25788fadac680553afdcf338cfe17be33ce4c0b296f35", func := "loop.example/temse/laws.FnSieveSame", spec := "fnSieveSame", inPlace := ["internal/bytealg.CountString", "internal/bytealg.IndexByteString", "internal/bytealg.IndexString", "internal/abi.NoEscape"], recurses := true, named := ["internal/bytealg.MaxLen"], apart := false, narrowed := true }
def FnSieveSameUptoSaid : Prop := fnSieveSameUptoRow.holds Try.pinned (OpenSpec.upto fnSieveSameSpec)

/-- 'laws.FnExactSieveSeek', WHERE WHAT IT READS IS OF BULK AT MOST 1048576: true; the input reads as it did. -/
def fnExactSieveSeekUptoRow : OpenClaim := { program := "ytifgcajpkgamgaa", sum := "f914941b4ae747150ef25788fadac680553afdcf338cfe17be33ce4c0b296f35", func := "loop.example/temse/laws.FnExactSieveSeek", spec := "fnExactSieveSeek", inPlace := ["internal/bytealg.CountString", "internal/bytealg.IndexByteString", "internal/bytealg.IndexString", "internal/abi.NoEscape"], recurses := true, named := ["internal/bytealg.MaxLen"], apart := false, narrowed := true }
def FnExactSieveSeekUptoSaid : Prop := fnExactSieveSeekUptoRow.holds Try.pinned (OpenSpec.upto fnExactSieveSeekSpec)

/-- 'laws.FnExactSieveMeets', WHERE WHAT IT READS IS OF BULK AT MOST 1048576: true; the input reads as it did. -/
def fnExactSieveMeetsUptoRow : OpenClaim := { program := "ytifgcajpkgamgaa", sum := "f914941b4ae747150ef25788fadac680553afdcf338cfe17be33ce4c0b296f35", func := "loop.example/temse/laws.FnExactSieveMeets", spec := "fnExactSieveMeets", inPlace := ["internal/bytealg.CountString", "internal/bytealg.IndexByteString", "internal/bytealg.IndexString", "internal/abi.NoEscape"], recurses := true, named := ["internal/bytealg.MaxLen"], apart := false, narrowed := true }
def FnExactSieveMeetsUptoSaid : Prop := fnExactSieveMeetsUptoRow.holds Try.pinned (OpenSpec.upto fnExactSieveMeetsSpec)

/-- 'laws.FnExactSieveHas', WHERE WHAT IT READS IS OF BULK AT MOST 1048576: true; the input reads as it did. -/
def fnExactSieveHasUptoRow : OpenClaim := { program := "ytifgcajpkgamgaa", sum := "f914941b4ae747150ef25788fadac680553afdcf338cfe17be33ce4c0b296f35", func := "loop.example/temse/laws.FnExactSieveHas", spec := "fnExactSieveHas", inPlace := ["internal/bytealg.CountString", "internal/bytealg.IndexByteString", "internal/bytealg.IndexString", "internal/abi.NoEscape"], recurses := true, named := ["internal/bytealg.MaxLen"], apart := false, narrowed := true }
def FnExactSieveHasUptoSaid : Prop := fnExactSieveHasUptoRow.holds Try.pinned (OpenSpec.upto fnExactSieveHasSpec)

/-- 'laws.FnSieveMeetsMore', WHERE WHAT IT READS IS OF BULK AT MOST 1048576: true; the input reads as it did. -/
def fnSieveMeetsMoreUptoRow : OpenClaim := { program := "ytifgcajpkgamgaa", sum := "f914941b4ae747150ef25788fadac680553afdcf338cfe17be33ce4c0b296f35", func := "loop.example/temse/laws.FnSieveMeetsMore", spec := "fnSieveMeetsMore", inPlace := ["internal/bytealg.CountString", "internal/bytealg.IndexByteString", "internal/bytealg.IndexString", "internal/abi.NoEscape"], recurses := true, named := ["internal/bytealg.MaxLen"], apart := false, narrowed := true }
def FnSieveMeetsMoreUptoSaid : Prop := fnSieveMeetsMoreUptoRow.holds Try.pinned (OpenSpec.upto fnSieveMeetsMoreSpec)

/-- 'laws.FnSieveSeek', WHERE WHAT IT READS IS OF BULK AT MOST 1048576: true; the input reads as it did. -/
def fnSieveSeekUptoRow : OpenClaim := { program := "ytifgcajpkgamgaa", sum := "f914941b4ae747150ef25788fadac680553afdcf338cfe17be33ce4c0b296f35", func := "loop.example/temse/laws.FnSieveSeek", spec := "fnSieveSeek", inPlace := ["internal/bytealg.CountString", "internal/bytealg.IndexByteString", "internal/bytealg.IndexString", "internal/abi.NoEscape"], recurses := true, named := ["internal/bytealg.MaxLen"], apart := false, narrowed := true }
def FnSieveSeekUptoSaid : Prop := fnSieveSeekUptoRow.holds Try.pinned (OpenSpec.upto fnSieveSeekSpec)

/-- 'laws.FnSieveHas', WHERE WHAT IT READS IS OF BULK AT MOST 1048576: true; the input reads as it did. -/
def fnSieveHasUptoRow : OpenClaim := { program := "ytifgcajpkgamgaa", sum := "f914941b4ae747150ef25788fadac680553afdcf338cfe17be33ce4c0b296f35", func := "loop.example/temse/laws.FnSieveHas", spec := "fnSieveHas", inPlace := ["internal/bytealg.CountString", "internal/bytealg.IndexByteString", "internal/bytealg.IndexString", "internal/abi.NoEscape"], recurses := true, named := ["internal/bytealg.MaxLen"], apart := false, narrowed := true }
def FnSieveHasUptoSaid : Prop := fnSieveHasUptoRow.holds Try.pinned (OpenSpec.upto fnSieveHasSpec)

/-- 'laws.FnSieveMeetsHas', WHERE WHAT IT READS IS OF BULK AT MOST 1048576: true; the input reads as it did. -/
def fnSieveMeetsHasUptoRow : OpenClaim := { program := "ytifgcajpkgamgaa", sum := "f914941b4ae747150ef25788fadac680553afdcf338cfe17be33ce4c0b296f35", func := "loop.example/temse/laws.FnSieveMeetsHas", spec := "fnSieveMeetsHas", inPlace := ["internal/bytealg.CountString", "internal/bytealg.IndexByteString", "internal/bytealg.IndexString", "internal/abi.NoEscape"], recurses := true, named := ["internal/bytealg.MaxLen"], apart := false, narrowed := true }
def FnSieveMeetsHasUptoSaid : Prop := fnSieveMeetsHasUptoRow.holds Try.pinned (OpenSpec.upto fnSieveMeetsHasSpec)

/-- 'laws.FnSieveGap', WHERE WHAT IT READS IS OF BULK AT MOST 1048576: true; the input reads as it did. -/
def fnSieveGapUptoRow : OpenClaim := { program := "ytifgcajpkgamgaa", sum := "f914941b4ae747150ef25788fadac680553afdcf338cfe17be33ce4c0b296f35", func := "loop.example/temse/laws.FnSieveGap", spec := "fnSieveGap", inPlace := ["internal/bytealg.CountString", "internal/bytealg.IndexByteString", "internal/bytealg.IndexString", "internal/abi.NoEscape"], recurses := true, named := ["internal/bytealg.MaxLen"], apart := false, narrowed := true }
def FnSieveGapUptoSaid : Prop := fnSieveGapUptoRow.holds Try.pinned (OpenSpec.upto fnSieveGapSpec)

end Rows
end Go.Proofs.Ytifgcajpkgamgaa
