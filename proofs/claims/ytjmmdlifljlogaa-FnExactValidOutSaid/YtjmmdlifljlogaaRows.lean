/-
  No cell of these rows narrows 'for every input' (looked for: loops, veiled, ifaces, maps, wideKeys, modest, calm, conditions, laid).
  DERIVED. THE GIVEN ROWS OF THIS SEAT. 12 by the template 'for every input the law returns true; each argument reads behind the call as it read before'; 0 by the template 'total and deterministic' (their statements: YtjmmdlifljlogaaTotals.lean).
  GIVEN WITH THE SEED: the statements are not yours to turn. If you find one false, say at which input.
  Laid BY PROGRAM, IN A SANDBOX (cutbox-rows.mjs): the forced cells as the released guide's own fill.sh prints them over the translation f9b920ea6f08ca5d… (all of the seat's roots in one cut). By AI agents, Wed Nov 11 2026. No macro, syntax, notation, axiom, sorry.
-/
import Derived.Test.YtjmmdlifljlogaaChecked
import GoSem.Claim
import GoSem.ClaimJoined
import GoSem.ClaimMapViews
import Derived.JoinedTies
import Derived.KernelRfl
namespace Go.Proofs.Ytjmmdlifljlogaa
/- THE CELL 'sum', in the pinned program and in every row, IS THE sha256 OF THE DUMP (.gsa) THAT YtjmmdlifljlogaaProg.lean LOADS. Nothing in Lean hashes anything: it is a label: what it is worth is what the hold of that sum in a sandbox is worth. -/
noncomputable def Try.pinned : Pinned := { name := "ytjmmdlifljlogaa", sum := "f9b920ea6f08ca5dabca4cfa43a4c93daa8f07f291b7f82c90cc71381f3643cd", checked := Try.checked }
namespace Rows
def none {H : Type} : Left H := { results := [], args := [] }

/-- 'laws.FnExactConstants': WHATEVER THE INPUT: true; the input reads as it did. -/
def fnExactConstantsSpec : ChangeSpec := { name := "fnExactConstants", fn := fun _ => fun
  | [] => { results := [.lit (.bool true)], args := [] }
  | _ => none }
def fnExactConstantsRow : OpenClaim := { program := "ytjmmdlifljlogaa", sum := "f9b920ea6f08ca5dabca4cfa43a4c93daa8f07f291b7f82c90cc71381f3643cd", func := "loop.example/s01316/laws.FnExactConstants", spec := "fnExactConstants", apart := false }
def FnExactConstantsSaid : Prop := fnExactConstantsRow.holds Try.pinned (OpenSpec.ofChange fnExactConstantsSpec)

/-- ITS FALSE NEIGHBOUR: 'it returns false'. Refute it at one input. -/
def fnExactConstantsWrong : ChangeSpec := { name := "fnExactConstants", fn := fun _ => fun
  | [] => { results := [.lit (.bool false)], args := [] }
  | _ => none }
def FnExactConstantsWrongFalsely : Prop := fnExactConstantsRow.holds Try.pinned (OpenSpec.ofChange fnExactConstantsWrong)

/-- 'laws.FnExactCrc32': WHATEVER THE INPUT: true; the input reads as it did. -/
def fnExactCrc32Spec : ChangeSpec := { name := "fnExactCrc32", fn := fun _ => fun
  | [d] => { results := [.lit (.bool true)], args := [d] }
  | _ => none }
def fnExactCrc32Row : OpenClaim := { program := "ytjmmdlifljlogaa", sum := "f9b920ea6f08ca5dabca4cfa43a4c93daa8f07f291b7f82c90cc71381f3643cd", func := "loop.example/s01316/laws.FnExactCrc32", spec := "fnExactCrc32", apart := false }
def FnExactCrc32Said : Prop := fnExactCrc32Row.holds Try.pinned (OpenSpec.ofChange fnExactCrc32Spec)

/-- ITS FALSE NEIGHBOUR: 'it returns false'. Refute it at one input. -/
def fnExactCrc32Wrong : ChangeSpec := { name := "fnExactCrc32", fn := fun _ => fun
  | [d] => { results := [.lit (.bool false)], args := [d] }
  | _ => none }
def FnExactCrc32WrongFalsely : Prop := fnExactCrc32Row.holds Try.pinned (OpenSpec.ofChange fnExactCrc32Wrong)

/-- 'laws.FnExactPackBits': WHATEVER THE INPUT: true; the input reads as it did. -/
def fnExactPackBitsSpec : ChangeSpec := { name := "fnExactPackBits", fn := fun _ => fun
  | [d] => { results := [.lit (.bool true)], args := [d] }
  | _ => none }
def fnExactPackBitsRow : OpenClaim := { program := "ytjmmdlifljlogaa", sum := "f9b920ea6f08ca5dabca4cfa43a4c93daa8f07f291b7f82c90cc71381f3643cd", func := "loop.example/s01316/laws.FnExactPackBits", spec := "fnExactPackBits", apart := false }
def FnExactPackBitsSaid : Prop := fnExactPackBitsRow.holds Try.pinned (OpenSpec.ofChange fnExactPackBitsSpec)

/-- ITS FALSE NEIGHBOUR: 'it returns false'. Refute it at one input. -/
def fnExactPackBitsWrong : ChangeSpec := { name := "fnExactPackBits", fn := fun _ => fun
  | [d] => { results := [.lit (.bool false)], args := [d] }
  | _ => none }
def FnExactPackBitsWrongFalsely : Prop := fnExactPackBitsRow.holds Try.pinned (OpenSpec.ofChange fnExactPackBitsWrong)

/-- 'laws.FnExactValidDict': WHATEVER THE INPUT: true; the input reads as it did. -/
def fnExactValidDictSpec : ChangeSpec := { name := "fnExactValidDict", fn := fun _ => fun
  | [d] => { results := [.lit (.bool true)], args := [d] }
  | _ => none }
def fnExactValidDictRow : OpenClaim := { program := "ytjmmdlifljlogaa", sum := "f9b920ea6f08ca5dabca4cfa43a4c93daa8f07f291b7f82c90cc71381f3643cd", func := "loop.example/s01316/laws.FnExactValidDict", spec := "fnExactValidDict", apart := false }
def FnExactValidDictSaid : Prop := fnExactValidDictRow.holds Try.pinned (OpenSpec.ofChange fnExactValidDictSpec)

/-- ITS FALSE NEIGHBOUR: 'it returns false'. Refute it at one input. -/
def fnExactValidDictWrong : ChangeSpec := { name := "fnExactValidDict", fn := fun _ => fun
  | [d] => { results := [.lit (.bool false)], args := [d] }
  | _ => none }
def FnExactValidDictWrongFalsely : Prop := fnExactValidDictRow.holds Try.pinned (OpenSpec.ofChange fnExactValidDictWrong)

/-- 'laws.FnExactJoinAligned': WHATEVER THE INPUT: true; the input reads as it did. -/
def fnExactJoinAlignedSpec : ChangeSpec := { name := "fnExactJoinAligned", fn := fun _ => fun
  | [d] => { results := [.lit (.bool true)], args := [d] }
  | _ => none }
def fnExactJoinAlignedRow : OpenClaim := { program := "ytjmmdlifljlogaa", sum := "f9b920ea6f08ca5dabca4cfa43a4c93daa8f07f291b7f82c90cc71381f3643cd", func := "loop.example/s01316/laws.FnExactJoinAligned", spec := "fnExactJoinAligned", apart := false }
def FnExactJoinAlignedSaid : Prop := fnExactJoinAlignedRow.holds Try.pinned (OpenSpec.ofChange fnExactJoinAlignedSpec)

/-- ITS FALSE NEIGHBOUR: 'it returns false'. Refute it at one input. -/
def fnExactJoinAlignedWrong : ChangeSpec := { name := "fnExactJoinAligned", fn := fun _ => fun
  | [d] => { results := [.lit (.bool false)], args := [d] }
  | _ => none }
def FnExactJoinAlignedWrongFalsely : Prop := fnExactJoinAlignedRow.holds Try.pinned (OpenSpec.ofChange fnExactJoinAlignedWrong)

/-- 'laws.FnExactUnpackBits': WHATEVER THE INPUT: true; the input reads as it did. -/
def fnExactUnpackBitsSpec : ChangeSpec := { name := "fnExactUnpackBits", fn := fun _ => fun
  | [d1, d2] => { results := [.lit (.bool true)], args := [d1, d2] }
  | _ => none }
def fnExactUnpackBitsRow : OpenClaim := { program := "ytjmmdlifljlogaa", sum := "f9b920ea6f08ca5dabca4cfa43a4c93daa8f07f291b7f82c90cc71381f3643cd", func := "loop.example/s01316/laws.FnExactUnpackBits", spec := "fnExactUnpackBits", apart := false }
def FnExactUnpackBitsSaid : Prop := fnExactUnpackBitsRow.holds Try.pinned (OpenSpec.ofChange fnExactUnpackBitsSpec)

/-- ITS FALSE NEIGHBOUR: 'it returns false'. Refute it at one input. -/
def fnExactUnpackBitsWrong : ChangeSpec := { name := "fnExactUnpackBits", fn := fun _ => fun
  | [d1, d2] => { results := [.lit (.bool false)], args := [d1, d2] }
  | _ => none }
def FnExactUnpackBitsWrongFalsely : Prop := fnExactUnpackBitsRow.holds Try.pinned (OpenSpec.ofChange fnExactUnpackBitsWrong)

/-- 'laws.FnExactUnpackInts': WHATEVER THE INPUT: true; the input reads as it did. -/
def fnExactUnpackIntsSpec : ChangeSpec := { name := "fnExactUnpackInts", fn := fun _ => fun
  | [d1, d2] => { results := [.lit (.bool true)], args := [d1, d2] }
  | _ => none }
def fnExactUnpackIntsRow : OpenClaim := { program := "ytjmmdlifljlogaa", sum := "f9b920ea6f08ca5dabca4cfa43a4c93daa8f07f291b7f82c90cc71381f3643cd", func := "loop.example/s01316/laws.FnExactUnpackInts", spec := "fnExactUnpackInts", apart := false }
def FnExactUnpackIntsSaid : Prop := fnExactUnpackIntsRow.holds Try.pinned (OpenSpec.ofChange fnExactUnpackIntsSpec)

/-- ITS FALSE NEIGHBOUR: 'it returns false'. Refute it at one input. -/
def fnExactUnpackIntsWrong : ChangeSpec := { name := "fnExactUnpackInts", fn := fun _ => fun
  | [d1, d2] => { results := [.lit (.bool false)], args := [d1, d2] }
  | _ => none }
def FnExactUnpackIntsWrongFalsely : Prop := fnExactUnpackIntsRow.holds Try.pinned (OpenSpec.ofChange fnExactUnpackIntsWrong)

/-- 'laws.FnExactPackInts': WHATEVER THE INPUT: true; the input reads as it did. -/
def fnExactPackIntsSpec : ChangeSpec := { name := "fnExactPackInts", fn := fun _ => fun
  | [d1, d2] => { results := [.lit (.bool true)], args := [d1, d2] }
  | _ => none }
def fnExactPackIntsRow : OpenClaim := { program := "ytjmmdlifljlogaa", sum := "f9b920ea6f08ca5dabca4cfa43a4c93daa8f07f291b7f82c90cc71381f3643cd", func := "loop.example/s01316/laws.FnExactPackInts", spec := "fnExactPackInts", apart := false }
def FnExactPackIntsSaid : Prop := fnExactPackIntsRow.holds Try.pinned (OpenSpec.ofChange fnExactPackIntsSpec)

/-- ITS FALSE NEIGHBOUR: 'it returns false'. Refute it at one input. -/
def fnExactPackIntsWrong : ChangeSpec := { name := "fnExactPackInts", fn := fun _ => fun
  | [d1, d2] => { results := [.lit (.bool false)], args := [d1, d2] }
  | _ => none }
def FnExactPackIntsWrongFalsely : Prop := fnExactPackIntsRow.holds Try.pinned (OpenSpec.ofChange fnExactPackIntsWrong)

/-- 'laws.FnExactValidFields': WHATEVER THE INPUT: true; the input reads as it did. -/
def fnExactValidFieldsSpec : ChangeSpec := { name := "fnExactValidFields", fn := fun _ => fun
  | [d] => { results := [.lit (.bool true)], args := [d] }
  | _ => none }
def fnExactValidFieldsRow : OpenClaim := { program := "ytjmmdlifljlogaa", sum := "f9b920ea6f08ca5dabca4cfa43a4c93daa8f07f291b7f82c90cc71381f3643cd", func := "loop.example/s01316/laws.FnExactValidFields", spec := "fnExactValidFields", apart := false }
def FnExactValidFieldsSaid : Prop := fnExactValidFieldsRow.holds Try.pinned (OpenSpec.ofChange fnExactValidFieldsSpec)

/-- ITS FALSE NEIGHBOUR: 'it returns false'. Refute it at one input. -/
def fnExactValidFieldsWrong : ChangeSpec := { name := "fnExactValidFields", fn := fun _ => fun
  | [d] => { results := [.lit (.bool false)], args := [d] }
  | _ => none }
def FnExactValidFieldsWrongFalsely : Prop := fnExactValidFieldsRow.holds Try.pinned (OpenSpec.ofChange fnExactValidFieldsWrong)

/-- 'laws.FnExactValidIn': WHATEVER THE INPUT: true; the input reads as it did. -/
def fnExactValidInSpec : ChangeSpec := { name := "fnExactValidIn", fn := fun _ => fun
  | [d] => { results := [.lit (.bool true)], args := [d] }
  | _ => none }
def fnExactValidInRow : OpenClaim := { program := "ytjmmdlifljlogaa", sum := "f9b920ea6f08ca5dabca4cfa43a4c93daa8f07f291b7f82c90cc71381f3643cd", func := "loop.example/s01316/laws.FnExactValidIn", spec := "fnExactValidIn", apart := false }
def FnExactValidInSaid : Prop := fnExactValidInRow.holds Try.pinned (OpenSpec.ofChange fnExactValidInSpec)

/-- ITS FALSE NEIGHBOUR: 'it returns false'. Refute it at one input. -/
def fnExactValidInWrong : ChangeSpec := { name := "fnExactValidIn", fn := fun _ => fun
  | [d] => { results := [.lit (.bool false)], args := [d] }
  | _ => none }
def FnExactValidInWrongFalsely : Prop := fnExactValidInRow.holds Try.pinned (OpenSpec.ofChange fnExactValidInWrong)

/-- 'laws.FnExactValidOut': WHATEVER THE INPUT: true; the input reads as it did. -/
def fnExactValidOutSpec : ChangeSpec := { name := "fnExactValidOut", fn := fun _ => fun
  | [d] => { results := [.lit (.bool true)], args := [d] }
  | _ => none }
def fnExactValidOutRow : OpenClaim := { program := "ytjmmdlifljlogaa", sum := "f9b920ea6f08ca5dabca4cfa43a4c93daa8f07f291b7f82c90cc71381f3643cd", func := "loop.example/s01316/laws.FnExactValidOut", spec := "fnExactValidOut", apart := false }
def FnExactValidOutSaid : Prop := fnExactValidOutRow.holds Try.pinned (OpenSpec.ofChange fnExactValidOutSpec)

/-- ITS FALSE NEIGHBOUR: 'it returns false'. Refute it at one input. -/
def fnExactValidOutWrong : ChangeSpec := { name := "fnExactValidOut", fn := fun _ => fun
  | [d] => { results := [.lit (.bool false)], args := [d] }
  | _ => none }
def FnExactValidOutWrongFalsely : Prop := fnExactValidOutRow.holds Try.pinned (OpenSpec.ofChange fnExactValidOutWrong)

/-- 'laws.FnExactApplyDict': WHATEVER THE INPUT: true; the input reads as it did. -/
def fnExactApplyDictSpec : ChangeSpec := { name := "fnExactApplyDict", fn := fun _ => fun
  | [d1, d2, d3] => { results := [.lit (.bool true)], args := [d1, d2, d3] }
  | _ => none }
def fnExactApplyDictRow : OpenClaim := { program := "ytjmmdlifljlogaa", sum := "f9b920ea6f08ca5dabca4cfa43a4c93daa8f07f291b7f82c90cc71381f3643cd", func := "loop.example/s01316/laws.FnExactApplyDict", spec := "fnExactApplyDict", apart := false }
def FnExactApplyDictSaid : Prop := fnExactApplyDictRow.holds Try.pinned (OpenSpec.ofChange fnExactApplyDictSpec)

/-- ITS FALSE NEIGHBOUR: 'it returns false'. Refute it at one input. -/
def fnExactApplyDictWrong : ChangeSpec := { name := "fnExactApplyDict", fn := fun _ => fun
  | [d1, d2, d3] => { results := [.lit (.bool false)], args := [d1, d2, d3] }
  | _ => none }
def FnExactApplyDictWrongFalsely : Prop := fnExactApplyDictRow.holds Try.pinned (OpenSpec.ofChange fnExactApplyDictWrong)

/- THE SECOND FORM. 'bulk': how many values and letters a reading holds, each counted each time it is reached (what is shared counts as often as it is met; a slice's spare places count too). A statement '..UptoSaid' is the law's where the arguments, and the package variables that the reading takes, are together of bulk at most 1048576: NARROWER than '..Said'. Prove '..Said' where nothing that the law and all that it calls make is longer than what came in: it says more and counts as full. Else prove '..UptoSaid'. A law counts once. -/
mutual
def uptoBulk {H : Type} : DataW H → Nat
  | .lit (.string bytes) => bytes.length + 1
  | .lit _ => 1
  | .nil => 1
  | .ptr d => uptoBulk d + 1
  | .slice elems spare => uptoBulkAll elems + uptoBulkAll spare + 1
  | .agg parts => uptoBulkAll parts + 1
  | .iface _ d => uptoBulk d + 1
  | .map entries => uptoBulkEntries entries + 1
  | .held _ => 1
def uptoBulkAll {H : Type} : List (DataW H) → Nat
  | [] => 0
  | d :: r => uptoBulk d + uptoBulkAll r
def uptoBulkEntries {H : Type} : List (Lit × DataW H) → Nat
  | [] => 0
  | x :: r => uptoBulkEntry x + uptoBulkEntries r
def uptoBulkEntry {H : Type} : Lit × DataW H → Nat
  | (.string bytes, d) => bytes.length + uptoBulk d + 1
  | (_, d) => uptoBulk d + 1
 end
def uptoSmall : (H : Type) → List (DataW H) → Bool := fun _ ds => decide (uptoBulkAll ds ≤ 1048576)
def OpenSpec.upto (s : _root_.Go.ChangeSpec) : _root_.Go.OpenSpec := { _root_.Go.OpenSpec.ofChange s with cond := some uptoSmall }

/-- 'laws.FnExactConstants', WHERE WHAT IT READS IS OF BULK AT MOST 1048576: true; the input reads as it did. -/
def fnExactConstantsUptoRow : OpenClaim := { program := "ytjmmdlifljlogaa", sum := "f9b920ea6f08ca5dabca4cfa43a4c93daa8f07f291b7f82c90cc71381f3643cd", func := "loop.example/s01316/laws.FnExactConstants", spec := "fnExactConstants", apart := false, narrowed := true }
def FnExactConstantsUptoSaid : Prop := fnExactConstantsUptoRow.holds Try.pinned (OpenSpec.upto fnExactConstantsSpec)

/-- 'laws.FnExactCrc32', WHERE WHAT IT READS IS OF BULK AT MOST 1048576: true; the input reads as it did. -/
def fnExactCrc32UptoRow : OpenClaim := { program := "ytjmmdlifljlogaa", sum := "f9b920ea6f08ca5dabca4cfa43a4c93daa8f07f291b7f82c90cc71381f3643cd", func := "loop.example/s01316/laws.FnExactCrc32", spec := "fnExactCrc32", apart := false, narrowed := true }
def FnExactCrc32UptoSaid : Prop := fnExactCrc32UptoRow.holds Try.pinned (OpenSpec.upto fnExactCrc32Spec)

/-- 'laws.FnExactPackBits', WHERE WHAT IT READS IS OF BULK AT MOST 1048576: true; the input reads as it did. -/
def fnExactPackBitsUptoRow : OpenClaim := { program := "ytjmmdlifljlogaa", sum := "f9b920ea6f08ca5dabca4cfa43a4c93daa8f07f291b7f82c90cc71381f3643cd", func := "loop.example/s01316/laws.FnExactPackBits", spec := "fnExactPackBits", apart := false, narrowed := true }
def FnExactPackBitsUptoSaid : Prop := fnExactPackBitsUptoRow.holds Try.pinned (OpenSpec.upto fnExactPackBitsSpec)

/-- 'laws.FnExactValidDict', WHERE WHAT IT READS IS OF BULK AT MOST 1048576: true; the input reads as it did. -/
def fnExactValidDictUptoRow : OpenClaim := { program := "ytjmmdlifljlogaa", sum := "f9b920ea6f08ca5dabca4cfa43a4c93daa8f07f291b7f82c90cc71381f3643cd", func := "loop.example/s01316/laws.FnExactValidDict", spec := "fnExactValidDict", apart := false, narrowed := true }
def FnExactValidDictUptoSaid : Prop := fnExactValidDictUptoRow.holds Try.pinned (OpenSpec.upto fnExactValidDictSpec)

/-- 'laws.FnExactJoinAligned', WHERE WHAT IT READS IS OF BULK AT MOST 1048576: true; the input reads as it did. -/
def fnExactJoinAlignedUptoRow : OpenClaim := { program := "ytjmmdlifljlogaa", sum := "f9b920ea6f08ca5dabca4cfa43a4c93daa8f07f291b7f82c90cc71381f3643cd", func := "loop.example/s01316/laws.FnExactJoinAligned", spec := "fnExactJoinAligned", apart := false, narrowed := true }
def FnExactJoinAlignedUptoSaid : Prop := fnExactJoinAlignedUptoRow.holds Try.pinned (OpenSpec.upto fnExactJoinAlignedSpec)

/-- 'laws.FnExactUnpackBits', WHERE WHAT IT READS IS OF BULK AT MOST 1048576: true; the input reads as it did. -/
def fnExactUnpackBitsUptoRow : OpenClaim := { program := "ytjmmdlifljlogaa", sum := "f9b920ea6f08ca5dabca4cfa43a4c93daa8f07f291b7f82c90cc71381f3643cd", func := "loop.example/s01316/laws.FnExactUnpackBits", spec := "fnExactUnpackBits", apart := false, narrowed := true }
def FnExactUnpackBitsUptoSaid : Prop := fnExactUnpackBitsUptoRow.holds Try.pinned (OpenSpec.upto fnExactUnpackBitsSpec)

/-- 'laws.FnExactUnpackInts', WHERE WHAT IT READS IS OF BULK AT MOST 1048576: true; the input reads as it did. -/
def fnExactUnpackIntsUptoRow : OpenClaim := { program := "ytjmmdlifljlogaa", sum := "f9b920ea6f08ca5dabca4cfa43a4c93daa8f07f291b7f82c90cc71381f3643cd", func := "loop.example/s01316/laws.FnExactUnpackInts", spec := "fnExactUnpackInts", apart := false, narrowed := true }
def FnExactUnpackIntsUptoSaid : Prop := fnExactUnpackIntsUptoRow.holds Try.pinned (OpenSpec.upto fnExactUnpackIntsSpec)

/-- 'laws.FnExactPackInts', WHERE WHAT IT READS IS OF BULK AT MOST 1048576: true; the input reads as it did. -/
def fnExactPackIntsUptoRow : OpenClaim := { program := "ytjmmdlifljlogaa", sum := "f9b920ea6f08ca5dabca4cfa43a4c93daa8f07f291b7f82c90cc71381f3643cd", func := "loop.example/s01316/laws.FnExactPackInts", spec := "fnExactPackInts", apart := false, narrowed := true }
def FnExactPackIntsUptoSaid : Prop := fnExactPackIntsUptoRow.holds Try.pinned (OpenSpec.upto fnExactPackIntsSpec)

/-- 'laws.FnExactValidFields', WHERE WHAT IT READS IS OF BULK AT MOST 1048576: true; the input reads as it did. -/
def fnExactValidFieldsUptoRow : OpenClaim := { program := "ytjmmdlifljlogaa", sum := "f9b920ea6f08ca5dabca4cfa43a4c93daa8f07f291b7f82c90cc71381f3643cd", func := "loop.example/s01316/laws.FnExactValidFields", spec := "fnExactValidFields", apart := false, narrowed := true }
def FnExactValidFieldsUptoSaid : Prop := fnExactValidFieldsUptoRow.holds Try.pinned (OpenSpec.upto fnExactValidFieldsSpec)

/-- 'laws.FnExactValidIn', WHERE WHAT IT READS IS OF BULK AT MOST 1048576: true; the input reads as it did. -/
def fnExactValidInUptoRow : OpenClaim := { program := "ytjmmdlifljlogaa", sum := "f9b920ea6f08ca5dabca4cfa43a4c93daa8f07f291b7f82c90cc71381f3643cd", func := "loop.example/s01316/laws.FnExactValidIn", spec := "fnExactValidIn", apart := false, narrowed := true }
def FnExactValidInUptoSaid : Prop := fnExactValidInUptoRow.holds Try.pinned (OpenSpec.upto fnExactValidInSpec)

/-- 'laws.FnExactValidOut', WHERE WHAT IT READS IS OF BULK AT MOST 1048576: true; the input reads as it did. -/
def fnExactValidOutUptoRow : OpenClaim := { program := "ytjmmdlifljlogaa", sum := "f9b920ea6f08ca5dabca4cfa43a4c93daa8f07f291b7f82c90cc71381f3643cd", func := "loop.example/s01316/laws.FnExactValidOut", spec := "fnExactValidOut", apart := false, narrowed := true }
def FnExactValidOutUptoSaid : Prop := fnExactValidOutUptoRow.holds Try.pinned (OpenSpec.upto fnExactValidOutSpec)

/-- 'laws.FnExactApplyDict', WHERE WHAT IT READS IS OF BULK AT MOST 1048576: true; the input reads as it did. -/
def fnExactApplyDictUptoRow : OpenClaim := { program := "ytjmmdlifljlogaa", sum := "f9b920ea6f08ca5dabca4cfa43a4c93daa8f07f291b7f82c90cc71381f3643cd", func := "loop.example/s01316/laws.FnExactApplyDict", spec := "fnExactApplyDict", apart := false, narrowed := true }
def FnExactApplyDictUptoSaid : Prop := fnExactApplyDictUptoRow.holds Try.pinned (OpenSpec.upto fnExactApplyDictSpec)

end Rows
end Go.Proofs.Ytjmmdlifljlogaa
