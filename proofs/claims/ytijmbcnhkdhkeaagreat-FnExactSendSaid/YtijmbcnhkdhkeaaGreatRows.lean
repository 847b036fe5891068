/-
  No cell of these rows narrows 'for every input' (looked for: loops, veiled, ifaces, maps, wideKeys, modest, calm, conditions, laid).
  DERIVED. THE GIVEN ROWS OF THIS SEAT. 3 by the template 'for every input the law returns true; each argument reads behind the call as it read before'; 0 by the template 'total and deterministic' (their statements: YtijmbcnhkdhkeaaGreatTotals.lean).
  GIVEN WITH THE SEED: the statements are not yours to turn. If you find one false, say at which input.
  Laid BY PROGRAM, IN A SANDBOX (cutbox-rows.mjs): the forced cells as the released guide's own fill.sh prints them over the translation 4f8b126e5d654c79… (all of the seat's roots in one cut). By AI agents, Wed Nov 11 2026. No macro, syntax, notation, axiom, sorry.
-/
import Derived.Test.YtijmbcnhkdhkeaaGreatChecked
import GoSem.Claim
import GoSem.ClaimJoined
import GoSem.ClaimMapViews
import Derived.JoinedTies
import Derived.KernelRfl
namespace Go.Proofs.YtijmbcnhkdhkeaaGreat
/- THE CELL 'sum', in the pinned program and in every row, IS THE sha256 OF THE DUMP (.gsa) THAT YtijmbcnhkdhkeaaGreatProg.lean LOADS. Nothing in Lean hashes anything: it is a label: what it is worth is what the hold of that sum in a sandbox is worth. -/
noncomputable def Tryz.pinned : Pinned := { name := "ytijmbcnhkdhkeaagreat", sum := "4f8b126e5d654c791889ef7c882536948e09df9af6107de22b0e9498a30ad39d", checked := Tryz.checked }
namespace Rows
def none {H : Type} : Left H := { results := [], args := [] }

/-- 'laws.FnExactCrashReceiver': WHATEVER THE INPUT: true; the input reads as it did. -/
def fnExactCrashReceiverSpec : ChangeSpec := { name := "fnExactCrashReceiver", fn := fun _ => fun
  | [d] => { results := [.lit (.bool true)], args := [d] }
  | _ => none }
def fnExactCrashReceiverRow : OpenClaim := { program := "ytijmbcnhkdhkeaagreat", sum := "4f8b126e5d654c791889ef7c882536948e09df9af6107de22b0e9498a30ad39d", func := "loop.example/s01316/laws.FnExactCrashReceiver", spec := "fnExactCrashReceiver", unfollowed := true, recurses := true, apart := false }
def FnExactCrashReceiverSaid : Prop := fnExactCrashReceiverRow.holds Tryz.pinned (OpenSpec.ofChange fnExactCrashReceiverSpec)

/-- ITS FALSE NEIGHBOUR: 'it returns false'. Refute it at one input. -/
def fnExactCrashReceiverWrong : ChangeSpec := { name := "fnExactCrashReceiver", fn := fun _ => fun
  | [d] => { results := [.lit (.bool false)], args := [d] }
  | _ => none }
def FnExactCrashReceiverWrongFalsely : Prop := fnExactCrashReceiverRow.holds Tryz.pinned (OpenSpec.ofChange fnExactCrashReceiverWrong)

/-- 'laws.FnExactPoll': WHATEVER THE INPUT: true; the input reads as it did. -/
def fnExactPollSpec : ChangeSpec := { name := "fnExactPoll", fn := fun _ => fun
  | [d] => { results := [.lit (.bool true)], args := [d] }
  | _ => none }
def fnExactPollRow : OpenClaim := { program := "ytijmbcnhkdhkeaagreat", sum := "4f8b126e5d654c791889ef7c882536948e09df9af6107de22b0e9498a30ad39d", func := "loop.example/s01316/laws.FnExactPoll", spec := "fnExactPoll", unfollowed := true, recurses := true, apart := false }
def FnExactPollSaid : Prop := fnExactPollRow.holds Tryz.pinned (OpenSpec.ofChange fnExactPollSpec)

/-- ITS FALSE NEIGHBOUR: 'it returns false'. Refute it at one input. -/
def fnExactPollWrong : ChangeSpec := { name := "fnExactPoll", fn := fun _ => fun
  | [d] => { results := [.lit (.bool false)], args := [d] }
  | _ => none }
def FnExactPollWrongFalsely : Prop := fnExactPollRow.holds Tryz.pinned (OpenSpec.ofChange fnExactPollWrong)

/-- 'laws.FnExactSend': WHATEVER THE INPUT: true; the input reads as it did. -/
def fnExactSendSpec : ChangeSpec := { name := "fnExactSend", fn := fun _ => fun
  | [d1, d2] => { results := [.lit (.bool true)], args := [d1, d2] }
  | _ => none }
def fnExactSendRow : OpenClaim := { program := "ytijmbcnhkdhkeaagreat", sum := "4f8b126e5d654c791889ef7c882536948e09df9af6107de22b0e9498a30ad39d", func := "loop.example/s01316/laws.FnExactSend", spec := "fnExactSend", unfollowed := true, recurses := true, apart := false }
def FnExactSendSaid : Prop := fnExactSendRow.holds Tryz.pinned (OpenSpec.ofChange fnExactSendSpec)

/-- ITS FALSE NEIGHBOUR: 'it returns false'. Refute it at one input. -/
def fnExactSendWrong : ChangeSpec := { name := "fnExactSend", fn := fun _ => fun
  | [d1, d2] => { results := [.lit (.bool false)], args := [d1, d2] }
  | _ => none }
def FnExactSendWrongFalsely : Prop := fnExactSendRow.holds Tryz.pinned (OpenSpec.ofChange fnExactSendWrong)

/- THE SECOND FORM. 'bulk': how many values and letters a reading holds, each counted each time it is reached (what is shared counts as often as it is met; a slice's spare places count too). A statement '..UptoSaid' is the law's where the arguments, and the package variables that the reading takes, are together of bulk at most 1048576: NARROWER than '..Said'. Prove '..Said' where nothing that the law and all that it calls make is longer than what came in: it says more and counts as full. Else prove '..UptoSaid'. A law counts once. -/
mutual
def uptoBulk {H : Type} : DataW H → Nat
  | .lit (.string bytes) => bytes.length + 1
  | .lit _ => 1
  | .nil => 1
  | .ptr d => uptoBulk d + 1
  | .slice elems spare => uptoBulkAll elems + uptoBulkAll spare + 1
  | .agg parts => uptoBulkAll parts + 1
  | .iface _ d => uptoBulk d + 1
  | .map entries => uptoBulkEntries entries + 1
  | .held _ => 1
def uptoBulkAll {H : Type} : List (DataW H) → Nat
  | [] => 0
  | d :: r => uptoBulk d + uptoBulkAll r
def uptoBulkEntries {H : Type} : List (Lit × DataW H) → Nat
  | [] => 0
  | x :: r => uptoBulkEntry x + uptoBulkEntries r
def uptoBulkEntry {H : Type} : Lit × DataW H → Nat
  | (.string bytes, d) => bytes.length + uptoBulk d + 1
  | (_, d) => uptoBulk d + 1
 end
def uptoSmall : (H : Type) → List (DataW H) → Bool := fun _ ds => decide (uptoBulkAll ds ≤ 1048576)
def OpenSpec.upto (s : _root_.Go.ChangeSpec) : _root_.Go.OpenSpec := { _root_.Go.OpenSpec.ofChange s with cond := some uptoSmall }

/-- 'laws.FnExactCrashReceiver', WHERE WHAT IT READS IS OF BULK AT MOST 1048576: true; the input reads as it did. -/
def fnExactCrashReceiverUptoRow : OpenClaim := { program := "ytijmbcnhkdhkeaagreat", sum := "4f8b126e5d654c791889ef7c882536948e09df9af6107de22b0e9498a30ad39d", func := "loop.example/s01316/laws.FnExactCrashReceiver", spec := "fnExactCrashReceiver", unfollowed := true, recurses := true, apart := false, narrowed := true }
def FnExactCrashReceiverUptoSaid : Prop := fnExactCrashReceiverUptoRow.holds Tryz.pinned (OpenSpec.upto fnExactCrashReceiverSpec)

/-- 'laws.FnExactPoll', WHERE WHAT IT READS IS OF BULK AT MOST 1048576: true; the input reads as it did. -/
def fnExactPollUptoRow : OpenClaim := { program := "ytijmbcnhkdhkeaagreat", sum := "4f8b126e5d654c791889ef7c882536948e09df9af6107de22b0e9498a30ad39d", func := "loop.example/s01316/laws.FnExactPoll", spec := "fnExactPoll", unfollowed := true, recurses := true, apart := false, narrowed := true }
def FnExactPollUptoSaid : Prop := fnExactPollUptoRow.holds Tryz.pinned (OpenSpec.upto fnExactPollSpec)

/-- 'laws.FnExactSend', WHERE WHAT IT READS IS OF BULK AT MOST 1048576: true; the input reads as it did. -/
def fnExactSendUptoRow : OpenClaim := { program := "ytijmbcnhkdhkeaagreat", sum := "4f8b126e5d654c791889ef7c882536948e09df9af6107de22b0e9498a30ad39d", func := "loop.example/s01316/laws.FnExactSend", spec := "fnExactSend", unfollowed := true, recurses := true, apart := false, narrowed := true }
def FnExactSendUptoSaid : Prop := fnExactSendUptoRow.holds Tryz.pinned (OpenSpec.upto fnExactSendSpec)

end Rows
end Go.Proofs.YtijmbcnhkdhkeaaGreat
