/-
  No cell of these rows narrows 'for every input' (looked for: loops, veiled, ifaces, maps, wideKeys, modest, calm, conditions, laid).
  DERIVED. THE GIVEN ROWS OF THIS SEAT. 9 by the template 'for every input the law returns true; each argument reads behind the call as it read before'; 0 by the template 'total and deterministic' (their statements: YtijmbcnhkdhkeaaTotals.lean).
  GIVEN WITH THE SEED: the statements are not yours to turn. If you find one false, say at which input.
  Laid BY PROGRAM, IN A SANDBOX (cutbox-rows.mjs): the forced cells as the released guide's own fill.sh prints them over the translation b36398a7a130e060… (all of the seat's roots in one cut). By AI agents, Wed Nov 11 2026. No macro, syntax, notation, axiom, sorry.
-/
import Derived.Test.YtijmbcnhkdhkeaaChecked
import GoSem.Claim
import GoSem.ClaimJoined
import GoSem.ClaimMapViews
import Derived.JoinedTies
import Derived.KernelRfl
namespace Go.Proofs.Ytijmbcnhkdhkeaa
/- THE CELL 'sum', in the pinned program and in every row, IS THE sha256 OF THE DUMP (.gsa) THAT YtijmbcnhkdhkeaaProg.lean LOADS. Nothing in Lean hashes anything: it is a label: what it is worth is what the hold of that sum in a sandbox is worth. -/
noncomputable def Try.pinned : Pinned := { name := "ytijmbcnhkdhkeaa", sum := "b36398a7a130e0607882a6c876ddeb7abb14e3e715f26342c5c9578ffbe100ba", checked := Try.checked }
namespace Rows
def none {H : Type} : Left H := { results := [], args := [] }

/-- 'laws.FnExactLinkPush': WHATEVER THE INPUT: true; the input reads as it did. -/
def fnExactLinkPushSpec : ChangeSpec := { name := "fnExactLinkPush", fn := fun _ => fun
  | [d1, d2] => { results := [.lit (.bool true)], args := [d1, d2] }
  | _ => none }
def fnExactLinkPushRow : OpenClaim := { program := "ytijmbcnhkdhkeaa", sum := "b36398a7a130e0607882a6c876ddeb7abb14e3e715f26342c5c9578ffbe100ba", func := "loop.example/s01316/laws.FnExactLinkPush", spec := "fnExactLinkPush", unfollowed := true, recurses := true, apart := false }
def FnExactLinkPushSaid : Prop := fnExactLinkPushRow.holds Try.pinned (OpenSpec.ofChange fnExactLinkPushSpec)

/-- ITS FALSE NEIGHBOUR: 'it returns false'. Refute it at one input. -/
def fnExactLinkPushWrong : ChangeSpec := { name := "fnExactLinkPush", fn := fun _ => fun
  | [d1, d2] => { results := [.lit (.bool false)], args := [d1, d2] }
  | _ => none }
def FnExactLinkPushWrongFalsely : Prop := fnExactLinkPushRow.holds Try.pinned (OpenSpec.ofChange fnExactLinkPushWrong)

/-- 'laws.FnExactPlanDict': WHATEVER THE INPUT: true; the input reads as it did. -/
def fnExactPlanDictSpec : ChangeSpec := { name := "fnExactPlanDict", fn := fun _ => fun
  | [d1, d2] => { results := [.lit (.bool true)], args := [d1, d2] }
  | _ => none }
def fnExactPlanDictRow : OpenClaim := { program := "ytijmbcnhkdhkeaa", sum := "b36398a7a130e0607882a6c876ddeb7abb14e3e715f26342c5c9578ffbe100ba", func := "loop.example/s01316/laws.FnExactPlanDict", spec := "fnExactPlanDict", unfollowed := true, recurses := true, apart := false }
def FnExactPlanDictSaid : Prop := fnExactPlanDictRow.holds Try.pinned (OpenSpec.ofChange fnExactPlanDictSpec)

/-- ITS FALSE NEIGHBOUR: 'it returns false'. Refute it at one input. -/
def fnExactPlanDictWrong : ChangeSpec := { name := "fnExactPlanDict", fn := fun _ => fun
  | [d1, d2] => { results := [.lit (.bool false)], args := [d1, d2] }
  | _ => none }
def FnExactPlanDictWrongFalsely : Prop := fnExactPlanDictRow.holds Try.pinned (OpenSpec.ofChange fnExactPlanDictWrong)

/-- 'laws.FnExactStartStream': WHATEVER THE INPUT: true; the input reads as it did. -/
def fnExactStartStreamSpec : ChangeSpec := { name := "fnExactStartStream", fn := fun _ => fun
  | [d1, d2] => { results := [.lit (.bool true)], args := [d1, d2] }
  | _ => none }
def fnExactStartStreamRow : OpenClaim := { program := "ytijmbcnhkdhkeaa", sum := "b36398a7a130e0607882a6c876ddeb7abb14e3e715f26342c5c9578ffbe100ba", func := "loop.example/s01316/laws.FnExactStartStream", spec := "fnExactStartStream", apart := false }
def FnExactStartStreamSaid : Prop := fnExactStartStreamRow.holds Try.pinned (OpenSpec.ofChange fnExactStartStreamSpec)

/-- ITS FALSE NEIGHBOUR: 'it returns false'. Refute it at one input. -/
def fnExactStartStreamWrong : ChangeSpec := { name := "fnExactStartStream", fn := fun _ => fun
  | [d1, d2] => { results := [.lit (.bool false)], args := [d1, d2] }
  | _ => none }
def FnExactStartStreamWrongFalsely : Prop := fnExactStartStreamRow.holds Try.pinned (OpenSpec.ofChange fnExactStartStreamWrong)

/-- 'laws.FnExactLinkTick': WHATEVER THE INPUT: true; the input reads as it did. -/
def fnExactLinkTickSpec : ChangeSpec := { name := "fnExactLinkTick", fn := fun _ => fun
  | [d] => { results := [.lit (.bool true)], args := [d] }
  | _ => none }
def fnExactLinkTickRow : OpenClaim := { program := "ytijmbcnhkdhkeaa", sum := "b36398a7a130e0607882a6c876ddeb7abb14e3e715f26342c5c9578ffbe100ba", func := "loop.example/s01316/laws.FnExactLinkTick", spec := "fnExactLinkTick", apart := false }
def FnExactLinkTickSaid : Prop := fnExactLinkTickRow.holds Try.pinned (OpenSpec.ofChange fnExactLinkTickSpec)

/-- ITS FALSE NEIGHBOUR: 'it returns false'. Refute it at one input. -/
def fnExactLinkTickWrong : ChangeSpec := { name := "fnExactLinkTick", fn := fun _ => fun
  | [d] => { results := [.lit (.bool false)], args := [d] }
  | _ => none }
def FnExactLinkTickWrongFalsely : Prop := fnExactLinkTickRow.holds Try.pinned (OpenSpec.ofChange fnExactLinkTickWrong)

/-- 'laws.FnExactBuildColumn': WHATEVER THE INPUT: true; the input reads as it did. -/
def fnExactBuildColumnSpec : ChangeSpec := { name := "fnExactBuildColumn", fn := fun _ => fun
  | [d1, d2, d3] => { results := [.lit (.bool true)], args := [d1, d2, d3] }
  | _ => none }
def fnExactBuildColumnRow : OpenClaim := { program := "ytijmbcnhkdhkeaa", sum := "b36398a7a130e0607882a6c876ddeb7abb14e3e715f26342c5c9578ffbe100ba", func := "loop.example/s01316/laws.FnExactBuildColumn", spec := "fnExactBuildColumn", unfollowed := true, recurses := true, apart := false }
def FnExactBuildColumnSaid : Prop := fnExactBuildColumnRow.holds Try.pinned (OpenSpec.ofChange fnExactBuildColumnSpec)

/-- ITS FALSE NEIGHBOUR: 'it returns false'. Refute it at one input. -/
def fnExactBuildColumnWrong : ChangeSpec := { name := "fnExactBuildColumn", fn := fun _ => fun
  | [d1, d2, d3] => { results := [.lit (.bool false)], args := [d1, d2, d3] }
  | _ => none }
def FnExactBuildColumnWrongFalsely : Prop := fnExactBuildColumnRow.holds Try.pinned (OpenSpec.ofChange fnExactBuildColumnWrong)

/-- 'laws.FnExactLinkTake': WHATEVER THE INPUT: true; the input reads as it did. -/
def fnExactLinkTakeSpec : ChangeSpec := { name := "fnExactLinkTake", fn := fun _ => fun
  | [d1, d2] => { results := [.lit (.bool true)], args := [d1, d2] }
  | _ => none }
def fnExactLinkTakeRow : OpenClaim := { program := "ytijmbcnhkdhkeaa", sum := "b36398a7a130e0607882a6c876ddeb7abb14e3e715f26342c5c9578ffbe100ba", func := "loop.example/s01316/laws.FnExactLinkTake", spec := "fnExactLinkTake", unfollowed := true, recurses := true, apart := false }
def FnExactLinkTakeSaid : Prop := fnExactLinkTakeRow.holds Try.pinned (OpenSpec.ofChange fnExactLinkTakeSpec)

/-- ITS FALSE NEIGHBOUR: 'it returns false'. Refute it at one input. -/
def fnExactLinkTakeWrong : ChangeSpec := { name := "fnExactLinkTake", fn := fun _ => fun
  | [d1, d2] => { results := [.lit (.bool false)], args := [d1, d2] }
  | _ => none }
def FnExactLinkTakeWrongFalsely : Prop := fnExactLinkTakeRow.holds Try.pinned (OpenSpec.ofChange fnExactLinkTakeWrong)

/-- 'laws.FnExactValidReceiver': WHATEVER THE INPUT: true; the input reads as it did. -/
def fnExactValidReceiverSpec : ChangeSpec := { name := "fnExactValidReceiver", fn := fun _ => fun
  | [d] => { results := [.lit (.bool true)], args := [d] }
  | _ => none }
def fnExactValidReceiverRow : OpenClaim := { program := "ytijmbcnhkdhkeaa", sum := "b36398a7a130e0607882a6c876ddeb7abb14e3e715f26342c5c9578ffbe100ba", func := "loop.example/s01316/laws.FnExactValidReceiver", spec := "fnExactValidReceiver", unfollowed := true, recurses := true, apart := false }
def FnExactValidReceiverSaid : Prop := fnExactValidReceiverRow.holds Try.pinned (OpenSpec.ofChange fnExactValidReceiverSpec)

/-- ITS FALSE NEIGHBOUR: 'it returns false'. Refute it at one input. -/
def fnExactValidReceiverWrong : ChangeSpec := { name := "fnExactValidReceiver", fn := fun _ => fun
  | [d] => { results := [.lit (.bool false)], args := [d] }
  | _ => none }
def FnExactValidReceiverWrongFalsely : Prop := fnExactValidReceiverRow.holds Try.pinned (OpenSpec.ofChange fnExactValidReceiverWrong)

/-- 'laws.FnExactValidSender': WHATEVER THE INPUT: true; the input reads as it did. -/
def fnExactValidSenderSpec : ChangeSpec := { name := "fnExactValidSender", fn := fun _ => fun
  | [d] => { results := [.lit (.bool true)], args := [d] }
  | _ => none }
def fnExactValidSenderRow : OpenClaim := { program := "ytijmbcnhkdhkeaa", sum := "b36398a7a130e0607882a6c876ddeb7abb14e3e715f26342c5c9578ffbe100ba", func := "loop.example/s01316/laws.FnExactValidSender", spec := "fnExactValidSender", unfollowed := true, recurses := true, apart := false }
def FnExactValidSenderSaid : Prop := fnExactValidSenderRow.holds Try.pinned (OpenSpec.ofChange fnExactValidSenderSpec)

/-- ITS FALSE NEIGHBOUR: 'it returns false'. Refute it at one input. -/
def fnExactValidSenderWrong : ChangeSpec := { name := "fnExactValidSender", fn := fun _ => fun
  | [d] => { results := [.lit (.bool false)], args := [d] }
  | _ => none }
def FnExactValidSenderWrongFalsely : Prop := fnExactValidSenderRow.holds Try.pinned (OpenSpec.ofChange fnExactValidSenderWrong)

/-- 'laws.FnExactOpenSender': WHATEVER THE INPUT: true; the input reads as it did. -/
def fnExactOpenSenderSpec : ChangeSpec := { name := "fnExactOpenSender", fn := fun _ => fun
  | [d] => { results := [.lit (.bool true)], args := [d] }
  | _ => none }
def fnExactOpenSenderRow : OpenClaim := { program := "ytijmbcnhkdhkeaa", sum := "b36398a7a130e0607882a6c876ddeb7abb14e3e715f26342c5c9578ffbe100ba", func := "loop.example/s01316/laws.FnExactOpenSender", spec := "fnExactOpenSender", unfollowed := true, recurses := true, apart := false }
def FnExactOpenSenderSaid : Prop := fnExactOpenSenderRow.holds Try.pinned (OpenSpec.ofChange fnExactOpenSenderSpec)

/-- ITS FALSE NEIGHBOUR: 'it returns false'. Refute it at one input. -/
def fnExactOpenSenderWrong : ChangeSpec := { name := "fnExactOpenSender", fn := fun _ => fun
  | [d] => { results := [.lit (.bool false)], args := [d] }
  | _ => none }
def FnExactOpenSenderWrongFalsely : Prop := fnExactOpenSenderRow.holds Try.pinned (OpenSpec.ofChange fnExactOpenSenderWrong)

/- THE SECOND FORM. 'bulk': how many values and letters a reading holds, each counted each time it is reached (what is shared counts as often as it is met; a slice's spare places count too). A statement '..UptoSaid' is the law's where the arguments, and the package variables that the reading takes, are together of bulk at most 1048576: NARROWER than '..Said'. Prove '..Said' where nothing that the law and all that it calls make is longer than what came in: it says more and counts as full. Else prove '..UptoSaid'. A law counts once. -/
mutual
def uptoBulk {H : Type} : DataW H → Nat
  | .lit (.string bytes) => bytes.length + 1
  | .lit _ => 1
  | .nil => 1
  | .ptr d => uptoBulk d + 1
  | .slice elems spare => uptoBulkAll elems + uptoBulkAll spare + 1
  | .agg parts => uptoBulkAll parts + 1
  | .iface _ d => uptoBulk d + 1
  | .map entries => uptoBulkEntries entries + 1
  | .held _ => 1
def uptoBulkAll {H : Type} : List (DataW H) → Nat
  | [] => 0
  | d :: r => uptoBulk d + uptoBulkAll r
def uptoBulkEntries {H : Type} : List (Lit × DataW H) → Nat
  | [] => 0
  | x :: r => uptoBulkEntry x + uptoBulkEntries r
def uptoBulkEntry {H : Type} : Lit × DataW H → Nat
  | (.string bytes, d) => bytes.length + uptoBulk d + 1
  | (_, d) => uptoBulk d + 1
 end
def uptoSmall : (H : Type) → List (DataW H) → Bool := fun _ ds => decide (uptoBulkAll ds ≤ 1048576)
def OpenSpec.upto (s : _root_.Go.ChangeSpec) : _root_.Go.OpenSpec := { _root_.Go.OpenSpec.ofChange s with cond := some uptoSmall }

/-- 'laws.FnExactLinkPush', WHERE WHAT IT READS IS OF BULK AT MOST 1048576: true; the input reads as it did. -/
def fnExactLinkPushUptoRow : OpenClaim := { program := "ytijmbcnhkdhkeaa", sum := "b36398a7a130e0607882a6c876ddeb7abb14e3e715f26342c5c9578ffbe100ba", func := "loop.example/s01316/laws.FnExactLinkPush", spec := "fnExactLinkPush", unfollowed := true, recurses := true, apart := false, narrowed := true }
def FnExactLinkPushUptoSaid : Prop := fnExactLinkPushUptoRow.holds Try.pinned (OpenSpec.upto fnExactLinkPushSpec)

/-- 'laws.FnExactPlanDict', WHERE WHAT IT READS IS OF BULK AT MOST 1048576: true; the input reads as it did. -/
def fnExactPlanDictUptoRow : OpenClaim := { program := "ytijmbcnhkdhkeaa", sum := "b36398a7a130e0607882a6c876ddeb7abb14e3e715f26342c5c9578ffbe100ba", func := "loop.example/s01316/laws.FnExactPlanDict", spec := "fnExactPlanDict", unfollowed := true, recurses := true, apart := false, narrowed := true }
def FnExactPlanDictUptoSaid : Prop := fnExactPlanDictUptoRow.holds Try.pinned (OpenSpec.upto fnExactPlanDictSpec)

/-- 'laws.FnExactStartStream', WHERE WHAT IT READS IS OF BULK AT MOST 1048576: true; the input reads as it did. -/
def fnExactStartStreamUptoRow : OpenClaim := { program := "ytijmbcnhkdhkeaa", sum := "b36398a7a130e0607882a6c876ddeb7abb14e3e715f26342c5c9578ffbe100ba", func := "loop.example/s01316/laws.FnExactStartStream", spec := "fnExactStartStream", apart := false, narrowed := true }
def FnExactStartStreamUptoSaid : Prop := fnExactStartStreamUptoRow.holds Try.pinned (OpenSpec.upto fnExactStartStreamSpec)

/-- 'laws.FnExactLinkTick', WHERE WHAT IT READS IS OF BULK AT MOST 1048576: true; the input reads as it did. -/
def fnExactLinkTickUptoRow : OpenClaim := { program := "ytijmbcnhkdhkeaa", sum := "b36398a7a130e0607882a6c876ddeb7abb14e3e715f26342c5c9578ffbe100ba", func := "loop.example/s01316/laws.FnExactLinkTick", spec := "fnExactLinkTick", apart := false, narrowed := true }
def FnExactLinkTickUptoSaid : Prop := fnExactLinkTickUptoRow.holds Try.pinned (OpenSpec.upto fnExactLinkTickSpec)

/-- 'laws.FnExactBuildColumn', WHERE WHAT IT READS IS OF BULK AT MOST 1048576: true; the input reads as it did. -/
def fnExactBuildColumnUptoRow : OpenClaim := { program := "ytijmbcnhkdhkeaa", sum := "b36398a7a130e0607882a6c876ddeb7abb14e3e715f26342c5c9578ffbe100ba", func := "loop.example/s01316/laws.FnExactBuildColumn", spec := "fnExactBuildColumn", unfollowed := true, recurses := true, apart := false, narrowed := true }
def FnExactBuildColumnUptoSaid : Prop := fnExactBuildColumnUptoRow.holds Try.pinned (OpenSpec.upto fnExactBuildColumnSpec)

/-- 'laws.FnExactLinkTake', WHERE WHAT IT READS IS OF BULK AT MOST 1048576: true; the input reads as it did. -/
def fnExactLinkTakeUptoRow : OpenClaim := { program := "ytijmbcnhkdhkeaa", sum := "b36398a7a130e0607882a6c876ddeb7abb14e3e715f26342c5c9578ffbe100ba", func := "loop.example/s01316/laws.FnExactLinkTake", spec := "fnExactLinkTake", unfollowed := true, recurses := true, apart := false, narrowed := true }
def FnExactLinkTakeUptoSaid : Prop := fnExactLinkTakeUptoRow.holds Try.pinned (OpenSpec.upto fnExactLinkTakeSpec)

/-- 'laws.FnExactValidReceiver', WHERE WHAT IT READS IS OF BULK AT MOST 1048576: true; the input reads as it did. -/
def fnExactValidReceiverUptoRow : OpenClaim := { program := "ytijmbcnhkdhkeaa", sum := "b36398a7a130e0607882a6c876ddeb7abb14e3e715f26342c5c9578ffbe100ba", func := "loop.example/s01316/laws.FnExactValidReceiver", spec := "fnExactValidReceiver", unfollowed := true, recurses := true, apart := false, narrowed := true }
def FnExactValidReceiverUptoSaid : Prop := fnExactValidReceiverUptoRow.holds Try.pinned (OpenSpec.upto fnExactValidReceiverSpec)

/-- 'laws.FnExactValidSender', WHERE WHAT IT READS IS OF BULK AT MOST 1048576: true; the input reads as it did. -/
def fnExactValidSenderUptoRow : OpenClaim := { program := "ytijmbcnhkdhkeaa", sum := "b36398a7a130e0607882a6c876ddeb7abb14e3e715f26342c5c9578ffbe100ba", func := "loop.example/s01316/laws.FnExactValidSender", spec := "fnExactValidSender", unfollowed := true, recurses := true, apart := false, narrowed := true }
def FnExactValidSenderUptoSaid : Prop := fnExactValidSenderUptoRow.holds Try.pinned (OpenSpec.upto fnExactValidSenderSpec)

/-- 'laws.FnExactOpenSender', WHERE WHAT IT READS IS OF BULK AT MOST 1048576: true; the input reads as it did. -/
def fnExactOpenSenderUptoRow : OpenClaim := { program := "ytijmbcnhkdhkeaa", sum := "b36398a7a130e0607882a6c876ddeb7abb14e3e715f26342c5c9578ffbe100ba", func := "loop.example/s01316/laws.FnExactOpenSender", spec := "fnExactOpenSender", unfollowed := true, recurses := true, apart := false, narrowed := true }
def FnExactOpenSenderUptoSaid : Prop := fnExactOpenSenderUptoRow.holds Try.pinned (OpenSpec.upto fnExactOpenSenderSpec)

end Rows
end Go.Proofs.Ytijmbcnhkdhkeaa
