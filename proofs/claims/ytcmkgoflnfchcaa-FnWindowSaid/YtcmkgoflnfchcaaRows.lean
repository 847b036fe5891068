/-
  No cell of these rows narrows 'for every input' (looked for: loops, veiled, ifaces, maps, wideKeys, modest, calm, conditions, laid).
  DERIVED. THE GIVEN ROWS OF THIS SEAT. 7 by the template 'for every input the law returns true; each argument reads behind the call as it read before'; 0 by the template 'total and deterministic' (their statements: YtcmkgoflnfchcaaTotals.lean).
  GIVEN WITH THE SEED: the statements are not yours to turn. If you find one false, say at which input.
  Laid BY PROGRAM, IN A SANDBOX (cutbox-rows.mjs): the forced cells as the released guide's own fill.sh prints them over the translation ee1978210fe3f604… (all of the seat's roots in one cut). By AI agents, Wed Nov 11 2026. No macro, syntax, notation, axiom, sorry.
-/
import Derived.Test.YtcmkgoflnfchcaaChecked
import GoSem.Claim
import GoSem.ClaimJoined
import GoSem.ClaimMapViews
import Derived.JoinedTies
import Derived.KernelRfl
namespace Go.Proofs.Ytcmkgoflnfchcaa
/- THE CELL 'sum', in the pinned program and in every row, IS THE sha256 OF THE DUMP (.gsa) THAT YtcmkgoflnfchcaaProg.lean LOADS. Nothing in Lean hashes anything: it is a label: what it is worth is what the hold of that sum in a sandbox is worth. -/
noncomputable def Try.pinned : Pinned := { name := "ytcmkgoflnfchcaa", sum := "ee1978210fe3f60456b6e3ed7f2a4b9fc97290118b1abc39248c375732ed7be2", checked := Try.checked }
namespace Rows
def none {H : Type} : Left H := { results := [], args := [] }

/-- 'laws.FnWindow': WHATEVER THE INPUT: true; the input reads as it did. -/
def fnWindowSpec : ChangeSpec := { name := "fnWindow", fn := fun _ => fun
  | [d1, d2] => { results := [.lit (.bool true)], args := [d1, d2] }
  | _ => none }
def fnWindowRow : OpenClaim := { program := "ytcmkgoflnfchcaa", sum := "ee1978210fe3f60456b6e3ed7f2a4b9fc97290118b1abc39248c375732ed7be2", func := "loop.example/s01316/laws.FnWindow", spec := "fnWindow", unfollowed := true, recurses := true, apart := false }
def FnWindowSaid : Prop := fnWindowRow.holds Try.pinned (OpenSpec.ofChange fnWindowSpec)

/-- ITS FALSE NEIGHBOUR: 'it returns false'. Refute it at one input. -/
def fnWindowWrong : ChangeSpec := { name := "fnWindow", fn := fun _ => fun
  | [d1, d2] => { results := [.lit (.bool false)], args := [d1, d2] }
  | _ => none }
def FnWindowWrongFalsely : Prop := fnWindowRow.holds Try.pinned (OpenSpec.ofChange fnWindowWrong)

/-- 'laws.FnForms': WHATEVER THE INPUT: true; the input reads as it did. -/
def fnFormsSpec : ChangeSpec := { name := "fnForms", fn := fun _ => fun
  | [d1, d2] => { results := [.lit (.bool true)], args := [d1, d2] }
  | _ => none }
def fnFormsRow : OpenClaim := { program := "ytcmkgoflnfchcaa", sum := "ee1978210fe3f60456b6e3ed7f2a4b9fc97290118b1abc39248c375732ed7be2", func := "loop.example/s01316/laws.FnForms", spec := "fnForms", apart := false }
def FnFormsSaid : Prop := fnFormsRow.holds Try.pinned (OpenSpec.ofChange fnFormsSpec)

/-- ITS FALSE NEIGHBOUR: 'it returns false'. Refute it at one input. -/
def fnFormsWrong : ChangeSpec := { name := "fnForms", fn := fun _ => fun
  | [d1, d2] => { results := [.lit (.bool false)], args := [d1, d2] }
  | _ => none }
def FnFormsWrongFalsely : Prop := fnFormsRow.holds Try.pinned (OpenSpec.ofChange fnFormsWrong)

/-- 'laws.FnLink': WHATEVER THE INPUT: true; the input reads as it did. -/
def fnLinkSpec : ChangeSpec := { name := "fnLink", fn := fun _ => fun
  | [d1, d2] => { results := [.lit (.bool true)], args := [d1, d2] }
  | _ => none }
def fnLinkRow : OpenClaim := { program := "ytcmkgoflnfchcaa", sum := "ee1978210fe3f60456b6e3ed7f2a4b9fc97290118b1abc39248c375732ed7be2", func := "loop.example/s01316/laws.FnLink", spec := "fnLink", unfollowed := true, recurses := true, apart := false }
def FnLinkSaid : Prop := fnLinkRow.holds Try.pinned (OpenSpec.ofChange fnLinkSpec)

/-- ITS FALSE NEIGHBOUR: 'it returns false'. Refute it at one input. -/
def fnLinkWrong : ChangeSpec := { name := "fnLink", fn := fun _ => fun
  | [d1, d2] => { results := [.lit (.bool false)], args := [d1, d2] }
  | _ => none }
def FnLinkWrongFalsely : Prop := fnLinkRow.holds Try.pinned (OpenSpec.ofChange fnLinkWrong)

/-- 'laws.FnExactLinkTake': WHATEVER THE INPUT: true; the input reads as it did. -/
def fnExactLinkTakeSpec : ChangeSpec := { name := "fnExactLinkTake", fn := fun _ => fun
  | [d1, d2] => { results := [.lit (.bool true)], args := [d1, d2] }
  | _ => none }
def fnExactLinkTakeRow : OpenClaim := { program := "ytcmkgoflnfchcaa", sum := "ee1978210fe3f60456b6e3ed7f2a4b9fc97290118b1abc39248c375732ed7be2", func := "loop.example/s01316/laws.FnExactLinkTake", spec := "fnExactLinkTake", unfollowed := true, recurses := true, apart := false }
def FnExactLinkTakeSaid : Prop := fnExactLinkTakeRow.holds Try.pinned (OpenSpec.ofChange fnExactLinkTakeSpec)

/-- ITS FALSE NEIGHBOUR: 'it returns false'. Refute it at one input. -/
def fnExactLinkTakeWrong : ChangeSpec := { name := "fnExactLinkTake", fn := fun _ => fun
  | [d1, d2] => { results := [.lit (.bool false)], args := [d1, d2] }
  | _ => none }
def FnExactLinkTakeWrongFalsely : Prop := fnExactLinkTakeRow.holds Try.pinned (OpenSpec.ofChange fnExactLinkTakeWrong)

/-- 'laws.FnDict': WHATEVER THE INPUT: true; the input reads as it did. -/
def fnDictSpec : ChangeSpec := { name := "fnDict", fn := fun _ => fun
  | [d] => { results := [.lit (.bool true)], args := [d] }
  | _ => none }
def fnDictRow : OpenClaim := { program := "ytcmkgoflnfchcaa", sum := "ee1978210fe3f60456b6e3ed7f2a4b9fc97290118b1abc39248c375732ed7be2", func := "loop.example/s01316/laws.FnDict", spec := "fnDict", unfollowed := true, recurses := true, apart := false }
def FnDictSaid : Prop := fnDictRow.holds Try.pinned (OpenSpec.ofChange fnDictSpec)

/-- ITS FALSE NEIGHBOUR: 'it returns false'. Refute it at one input. -/
def fnDictWrong : ChangeSpec := { name := "fnDict", fn := fun _ => fun
  | [d] => { results := [.lit (.bool false)], args := [d] }
  | _ => none }
def FnDictWrongFalsely : Prop := fnDictRow.holds Try.pinned (OpenSpec.ofChange fnDictWrong)

/-- 'laws.FnColumn': WHATEVER THE INPUT: true; the input reads as it did. -/
def fnColumnSpec : ChangeSpec := { name := "fnColumn", fn := fun _ => fun
  | [d1, d2] => { results := [.lit (.bool true)], args := [d1, d2] }
  | _ => none }
def fnColumnRow : OpenClaim := { program := "ytcmkgoflnfchcaa", sum := "ee1978210fe3f60456b6e3ed7f2a4b9fc97290118b1abc39248c375732ed7be2", func := "loop.example/s01316/laws.FnColumn", spec := "fnColumn", unfollowed := true, recurses := true, apart := false }
def FnColumnSaid : Prop := fnColumnRow.holds Try.pinned (OpenSpec.ofChange fnColumnSpec)

/-- ITS FALSE NEIGHBOUR: 'it returns false'. Refute it at one input. -/
def fnColumnWrong : ChangeSpec := { name := "fnColumn", fn := fun _ => fun
  | [d1, d2] => { results := [.lit (.bool false)], args := [d1, d2] }
  | _ => none }
def FnColumnWrongFalsely : Prop := fnColumnRow.holds Try.pinned (OpenSpec.ofChange fnColumnWrong)

/-- 'laws.FnExactReadColumn': WHATEVER THE INPUT: true; the input reads as it did. -/
def fnExactReadColumnSpec : ChangeSpec := { name := "fnExactReadColumn", fn := fun _ => fun
  | [d1, d2, d3, d4] => { results := [.lit (.bool true)], args := [d1, d2, d3, d4] }
  | _ => none }
def fnExactReadColumnRow : OpenClaim := { program := "ytcmkgoflnfchcaa", sum := "ee1978210fe3f60456b6e3ed7f2a4b9fc97290118b1abc39248c375732ed7be2", func := "loop.example/s01316/laws.FnExactReadColumn", spec := "fnExactReadColumn", unfollowed := true, recurses := true, apart := false }
def FnExactReadColumnSaid : Prop := fnExactReadColumnRow.holds Try.pinned (OpenSpec.ofChange fnExactReadColumnSpec)

/-- ITS FALSE NEIGHBOUR: 'it returns false'. Refute it at one input. -/
def fnExactReadColumnWrong : ChangeSpec := { name := "fnExactReadColumn", fn := fun _ => fun
  | [d1, d2, d3, d4] => { results := [.lit (.bool false)], args := [d1, d2, d3, d4] }
  | _ => none }
def FnExactReadColumnWrongFalsely : Prop := fnExactReadColumnRow.holds Try.pinned (OpenSpec.ofChange fnExactReadColumnWrong)

/- THE SECOND FORM. 'bulk': how many values and letters a reading holds, each counted each time it is reached (what is shared counts as often as it is met; a slice's spare places count too). A statement '..UptoSaid' is the law's where the arguments, and the package variables that the reading takes, are together of bulk at most 1048576: NARROWER than '..Said'. Prove '..Said' where nothing that the law and all that it calls make is longer than what came in: it says more and counts as full. Else prove '..UptoSaid'. A law counts once. -/
mutual
def uptoBulk {H : Type} : DataW H → Nat
  | .lit (.string bytes) => bytes.length + 1
  | .lit _ => 1
  | .nil => 1
  | .ptr d => uptoBulk d + 1
  | .slice elems spare => uptoBulkAll elems + uptoBulkAll spare + 1
  | .agg parts => uptoBulkAll parts + 1
  | .iface _ d => uptoBulk d + 1
  | .map entries => uptoBulkEntries entries + 1
  | .held _ => 1
def uptoBulkAll {H : Type} : List (DataW H) → Nat
  | [] => 0
  | d :: r => uptoBulk d + uptoBulkAll r
def uptoBulkEntries {H : Type} : List (Lit × DataW H) → Nat
  | [] => 0
  | x :: r => uptoBulkEntry x + uptoBulkEntries r
def uptoBulkEntry {H : Type} : Lit × DataW H → Nat
  | (.string bytes, d) => bytes.length + uptoBulk d + 1
  | (_, d) => uptoBulk d + 1
 end
def uptoSmall : (H : Type) → List (DataW H) → Bool := fun _ ds => decide (uptoBulkAll ds ≤ 1048576)
def OpenSpec.upto (s : _root_.Go.ChangeSpec) : _root_.Go.OpenSpec := { _root_.Go.OpenSpec.ofChange s with cond := some uptoSmall }

/-- 'laws.FnWindow', WHERE WHAT IT READS IS OF BULK AT MOST 1048576: true; the input reads as it did. -/
def fnWindowUptoRow : OpenClaim := { program := "ytcmkgoflnfchcaa", sum := "ee1978210fe3f60456b6e3ed7f2a4b9fc97290118b1abc39248c375732ed7be2", func := "loop.example/s01316/laws.FnWindow", spec := "fnWindow", unfollowed := true, recurses := true, apart := false, narrowed := true }
def FnWindowUptoSaid : Prop := fnWindowUptoRow.holds Try.pinned (OpenSpec.upto fnWindowSpec)

/-- 'laws.FnForms', WHERE WHAT IT READS IS OF BULK AT MOST 1048576: true; the input reads as it did. -/
def fnFormsUptoRow : OpenClaim := { program := "ytcmkgoflnfchcaa", sum := "ee1978210fe3f60456b6e3ed7f2a4b9fc97290118b1abc39248c375732ed7be2", func := "loop.example/s01316/laws.FnForms", spec := "fnForms", apart := false, narrowed := true }
def FnFormsUptoSaid : Prop := fnFormsUptoRow.holds Try.pinned (OpenSpec.upto fnFormsSpec)

/-- 'laws.FnLink', WHERE WHAT IT READS IS OF BULK AT MOST 1048576: true; the input reads as it did. -/
def fnLinkUptoRow : OpenClaim := { program := "ytcmkgoflnfchcaa", sum := "ee1978210fe3f60456b6e3ed7f2a4b9fc97290118b1abc39248c375732ed7be2", func := "loop.example/s01316/laws.FnLink", spec := "fnLink", unfollowed := true, recurses := true, apart := false, narrowed := true }
def FnLinkUptoSaid : Prop := fnLinkUptoRow.holds Try.pinned (OpenSpec.upto fnLinkSpec)

/-- 'laws.FnExactLinkTake', WHERE WHAT IT READS IS OF BULK AT MOST 1048576: true; the input reads as it did. -/
def fnExactLinkTakeUptoRow : OpenClaim := { program := "ytcmkgoflnfchcaa", sum := "ee1978210fe3f60456b6e3ed7f2a4b9fc97290118b1abc39248c375732ed7be2", func := "loop.example/s01316/laws.FnExactLinkTake", spec := "fnExactLinkTake", unfollowed := true, recurses := true, apart := false, narrowed := true }
def FnExactLinkTakeUptoSaid : Prop := fnExactLinkTakeUptoRow.holds Try.pinned (OpenSpec.upto fnExactLinkTakeSpec)

/-- 'laws.FnDict', WHERE WHAT IT READS IS OF BULK AT MOST 1048576: true; the input reads as it did. -/
def fnDictUptoRow : OpenClaim := { program := "ytcmkgoflnfchcaa", sum := "ee1978210fe3f60456b6e3ed7f2a4b9fc97290118b1abc39248c375732ed7be2", func := "loop.example/s01316/laws.FnDict", spec := "fnDict", unfollowed := true, recurses := true, apart := false, narrowed := true }
def FnDictUptoSaid : Prop := fnDictUptoRow.holds Try.pinned (OpenSpec.upto fnDictSpec)

/-- 'laws.FnColumn', WHERE WHAT IT READS IS OF BULK AT MOST 1048576: true; the input reads as it did. -/
def fnColumnUptoRow : OpenClaim := { program := "ytcmkgoflnfchcaa", sum := "ee1978210fe3f60456b6e3ed7f2a4b9fc97290118b1abc39248c375732ed7be2", func := "loop.example/s01316/laws.FnColumn", spec := "fnColumn", unfollowed := true, recurses := true, apart := false, narrowed := true }
def FnColumnUptoSaid : Prop := fnColumnUptoRow.holds Try.pinned (OpenSpec.upto fnColumnSpec)

/-- 'laws.FnExactReadColumn', WHERE WHAT IT READS IS OF BULK AT MOST 1048576: true; the input reads as it did. -/
def fnExactReadColumnUptoRow : OpenClaim := { program := "ytcmkgoflnfchcaa", sum := "ee1978210fe3f60456b6e3ed7f2a4b9fc97290118b1abc39248c375732ed7be2", func := "loop.example/s01316/laws.FnExactReadColumn", spec := "fnExactReadColumn", unfollowed := true, recurses := true, apart := false, narrowed := true }
def FnExactReadColumnUptoSaid : Prop := fnExactReadColumnUptoRow.holds Try.pinned (OpenSpec.upto fnExactReadColumnSpec)

end Rows
end Go.Proofs.Ytcmkgoflnfchcaa
