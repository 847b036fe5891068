/-
  No cell of these rows narrows 'for every input' (looked for: loops, veiled, ifaces, maps, wideKeys, modest, calm, conditions, laid).
  DERIVED. THE GIVEN ROWS OF THIS SEAT. 12 by the template 'for every input the law returns true; each argument reads behind the call as it read before'; 0 by the template 'total and deterministic' (their statements: YtpicohffjdndjaaTotals.lean).
  GIVEN WITH THE SEED: the statements are not yours to turn. If you find one false, say at which input.
  Laid BY PROGRAM, IN A SANDBOX (cutbox-rows.mjs): the forced cells as the released guide's own fill.sh prints them over the translation e35dde5c5ca68bb2… (all of the seat's roots in one cut). By AI agents, Wed Nov 11 2026. No macro, syntax, notation, axiom, sorry.
-/
import Derived.Test.YtpicohffjdndjaaChecked
import GoSem.Claim
import GoSem.ClaimJoined
import GoSem.ClaimMapViews
import Derived.JoinedTies
import Derived.KernelRfl
namespace Go.Proofs.Ytpicohffjdndjaa
/- THE CELL 'sum', in the pinned program and in every row, IS THE sha256 OF THE DUMP (.gsa) THAT YtpicohffjdndjaaProg.lean LOADS. Nothing in Lean hashes anything: it is a label: what it is worth is what the hold of that sum in a sandbox is worth. -/
noncomputable def Try.pinned : Pinned := { name := "ytpicohffjdndjaa", sum := "e35dde5c5ca68bb2bdabd62ff6c0f847735e1c4574db289d794ea3dff598451e", checked := Try.checked }
namespace Rows
def none {H : Type} : Left H := { results := [], args := [] }

/-- 'laws.FnExactValidDict': WHATEVER THE INPUT: true; the input reads as it did. -/
def fnExactValidDictSpec : ChangeSpec := { name := "fnExactValidDict", fn := fun _ => fun
  | [d] => { results := [.lit (.bool true)], args := [d] }
  | _ => none }
def fnExactValidDictRow : OpenClaim := { program := "ytpicohffjdndjaa", sum := "e35dde5c5ca68bb2bdabd62ff6c0f847735e1c4574db289d794ea3dff598451e", func := "loop.example/s01316/laws.FnExactValidDict", spec := "fnExactValidDict", apart := false }
def FnExactValidDictSaid : Prop := fnExactValidDictRow.holds Try.pinned (OpenSpec.ofChange fnExactValidDictSpec)

/-- ITS FALSE NEIGHBOUR: 'it returns false'. Refute it at one input. -/
def fnExactValidDictWrong : ChangeSpec := { name := "fnExactValidDict", fn := fun _ => fun
  | [d] => { results := [.lit (.bool false)], args := [d] }
  | _ => none }
def FnExactValidDictWrongFalsely : Prop := fnExactValidDictRow.holds Try.pinned (OpenSpec.ofChange fnExactValidDictWrong)

/-- 'laws.FnExactValidFields': WHATEVER THE INPUT: true; the input reads as it did. -/
def fnExactValidFieldsSpec : ChangeSpec := { name := "fnExactValidFields", fn := fun _ => fun
  | [d] => { results := [.lit (.bool true)], args := [d] }
  | _ => none }
def fnExactValidFieldsRow : OpenClaim := { program := "ytpicohffjdndjaa", sum := "e35dde5c5ca68bb2bdabd62ff6c0f847735e1c4574db289d794ea3dff598451e", func := "loop.example/s01316/laws.FnExactValidFields", spec := "fnExactValidFields", apart := false }
def FnExactValidFieldsSaid : Prop := fnExactValidFieldsRow.holds Try.pinned (OpenSpec.ofChange fnExactValidFieldsSpec)

/-- ITS FALSE NEIGHBOUR: 'it returns false'. Refute it at one input. -/
def fnExactValidFieldsWrong : ChangeSpec := { name := "fnExactValidFields", fn := fun _ => fun
  | [d] => { results := [.lit (.bool false)], args := [d] }
  | _ => none }
def FnExactValidFieldsWrongFalsely : Prop := fnExactValidFieldsRow.holds Try.pinned (OpenSpec.ofChange fnExactValidFieldsWrong)

/-- 'laws.FnExactApplyDict': WHATEVER THE INPUT: true; the input reads as it did. -/
def fnExactApplyDictSpec : ChangeSpec := { name := "fnExactApplyDict", fn := fun _ => fun
  | [d1, d2, d3] => { results := [.lit (.bool true)], args := [d1, d2, d3] }
  | _ => none }
def fnExactApplyDictRow : OpenClaim := { program := "ytpicohffjdndjaa", sum := "e35dde5c5ca68bb2bdabd62ff6c0f847735e1c4574db289d794ea3dff598451e", func := "loop.example/s01316/laws.FnExactApplyDict", spec := "fnExactApplyDict", apart := false }
def FnExactApplyDictSaid : Prop := fnExactApplyDictRow.holds Try.pinned (OpenSpec.ofChange fnExactApplyDictSpec)

/-- ITS FALSE NEIGHBOUR: 'it returns false'. Refute it at one input. -/
def fnExactApplyDictWrong : ChangeSpec := { name := "fnExactApplyDict", fn := fun _ => fun
  | [d1, d2, d3] => { results := [.lit (.bool false)], args := [d1, d2, d3] }
  | _ => none }
def FnExactApplyDictWrongFalsely : Prop := fnExactApplyDictRow.holds Try.pinned (OpenSpec.ofChange fnExactApplyDictWrong)

/-- 'laws.FnExactEncodePacket': WHATEVER THE INPUT: true; the input reads as it did. -/
def fnExactEncodePacketSpec : ChangeSpec := { name := "fnExactEncodePacket", fn := fun _ => fun
  | [d] => { results := [.lit (.bool true)], args := [d] }
  | _ => none }
def fnExactEncodePacketRow : OpenClaim := { program := "ytpicohffjdndjaa", sum := "e35dde5c5ca68bb2bdabd62ff6c0f847735e1c4574db289d794ea3dff598451e", func := "loop.example/s01316/laws.FnExactEncodePacket", spec := "fnExactEncodePacket", apart := false }
def FnExactEncodePacketSaid : Prop := fnExactEncodePacketRow.holds Try.pinned (OpenSpec.ofChange fnExactEncodePacketSpec)

/-- ITS FALSE NEIGHBOUR: 'it returns false'. Refute it at one input. -/
def fnExactEncodePacketWrong : ChangeSpec := { name := "fnExactEncodePacket", fn := fun _ => fun
  | [d] => { results := [.lit (.bool false)], args := [d] }
  | _ => none }
def FnExactEncodePacketWrongFalsely : Prop := fnExactEncodePacketRow.holds Try.pinned (OpenSpec.ofChange fnExactEncodePacketWrong)

/-- 'laws.FnBuffers': WHATEVER THE INPUT: true; the input reads as it did. -/
def fnBuffersSpec : ChangeSpec := { name := "fnBuffers", fn := fun _ => fun
  | [d] => { results := [.lit (.bool true)], args := [d] }
  | _ => none }
def fnBuffersRow : OpenClaim := { program := "ytpicohffjdndjaa", sum := "e35dde5c5ca68bb2bdabd62ff6c0f847735e1c4574db289d794ea3dff598451e", func := "loop.example/s01316/laws.FnBuffers", spec := "fnBuffers", apart := false }
def FnBuffersSaid : Prop := fnBuffersRow.holds Try.pinned (OpenSpec.ofChange fnBuffersSpec)

/-- ITS FALSE NEIGHBOUR: 'it returns false'. Refute it at one input. -/
def fnBuffersWrong : ChangeSpec := { name := "fnBuffers", fn := fun _ => fun
  | [d] => { results := [.lit (.bool false)], args := [d] }
  | _ => none }
def FnBuffersWrongFalsely : Prop := fnBuffersRow.holds Try.pinned (OpenSpec.ofChange fnBuffersWrong)

/-- 'laws.FnExactDecodePacket': WHATEVER THE INPUT: true; the input reads as it did. -/
def fnExactDecodePacketSpec : ChangeSpec := { name := "fnExactDecodePacket", fn := fun _ => fun
  | [d] => { results := [.lit (.bool true)], args := [d] }
  | _ => none }
def fnExactDecodePacketRow : OpenClaim := { program := "ytpicohffjdndjaa", sum := "e35dde5c5ca68bb2bdabd62ff6c0f847735e1c4574db289d794ea3dff598451e", func := "loop.example/s01316/laws.FnExactDecodePacket", spec := "fnExactDecodePacket", apart := false }
def FnExactDecodePacketSaid : Prop := fnExactDecodePacketRow.holds Try.pinned (OpenSpec.ofChange fnExactDecodePacketSpec)

/-- ITS FALSE NEIGHBOUR: 'it returns false'. Refute it at one input. -/
def fnExactDecodePacketWrong : ChangeSpec := { name := "fnExactDecodePacket", fn := fun _ => fun
  | [d] => { results := [.lit (.bool false)], args := [d] }
  | _ => none }
def FnExactDecodePacketWrongFalsely : Prop := fnExactDecodePacketRow.holds Try.pinned (OpenSpec.ofChange fnExactDecodePacketWrong)

/-- 'laws.FnExactEncodeMessage': WHATEVER THE INPUT: true; the input reads as it did. -/
def fnExactEncodeMessageSpec : ChangeSpec := { name := "fnExactEncodeMessage", fn := fun _ => fun
  | [d] => { results := [.lit (.bool true)], args := [d] }
  | _ => none }
def fnExactEncodeMessageRow : OpenClaim := { program := "ytpicohffjdndjaa", sum := "e35dde5c5ca68bb2bdabd62ff6c0f847735e1c4574db289d794ea3dff598451e", func := "loop.example/s01316/laws.FnExactEncodeMessage", spec := "fnExactEncodeMessage", apart := false }
def FnExactEncodeMessageSaid : Prop := fnExactEncodeMessageRow.holds Try.pinned (OpenSpec.ofChange fnExactEncodeMessageSpec)

/-- ITS FALSE NEIGHBOUR: 'it returns false'. Refute it at one input. -/
def fnExactEncodeMessageWrong : ChangeSpec := { name := "fnExactEncodeMessage", fn := fun _ => fun
  | [d] => { results := [.lit (.bool false)], args := [d] }
  | _ => none }
def FnExactEncodeMessageWrongFalsely : Prop := fnExactEncodeMessageRow.holds Try.pinned (OpenSpec.ofChange fnExactEncodeMessageWrong)

/-- 'laws.FnExactValidStream': WHATEVER THE INPUT: true; the input reads as it did. -/
def fnExactValidStreamSpec : ChangeSpec := { name := "fnExactValidStream", fn := fun _ => fun
  | [d] => { results := [.lit (.bool true)], args := [d] }
  | _ => none }
def fnExactValidStreamRow : OpenClaim := { program := "ytpicohffjdndjaa", sum := "e35dde5c5ca68bb2bdabd62ff6c0f847735e1c4574db289d794ea3dff598451e", func := "loop.example/s01316/laws.FnExactValidStream", spec := "fnExactValidStream", apart := false }
def FnExactValidStreamSaid : Prop := fnExactValidStreamRow.holds Try.pinned (OpenSpec.ofChange fnExactValidStreamSpec)

/-- ITS FALSE NEIGHBOUR: 'it returns false'. Refute it at one input. -/
def fnExactValidStreamWrong : ChangeSpec := { name := "fnExactValidStream", fn := fun _ => fun
  | [d] => { results := [.lit (.bool false)], args := [d] }
  | _ => none }
def FnExactValidStreamWrongFalsely : Prop := fnExactValidStreamRow.holds Try.pinned (OpenSpec.ofChange fnExactValidStreamWrong)

/-- 'laws.FnExactDecodeMessage': WHATEVER THE INPUT: true; the input reads as it did. -/
def fnExactDecodeMessageSpec : ChangeSpec := { name := "fnExactDecodeMessage", fn := fun _ => fun
  | [d] => { results := [.lit (.bool true)], args := [d] }
  | _ => none }
def fnExactDecodeMessageRow : OpenClaim := { program := "ytpicohffjdndjaa", sum := "e35dde5c5ca68bb2bdabd62ff6c0f847735e1c4574db289d794ea3dff598451e", func := "loop.example/s01316/laws.FnExactDecodeMessage", spec := "fnExactDecodeMessage", apart := false }
def FnExactDecodeMessageSaid : Prop := fnExactDecodeMessageRow.holds Try.pinned (OpenSpec.ofChange fnExactDecodeMessageSpec)

/-- ITS FALSE NEIGHBOUR: 'it returns false'. Refute it at one input. -/
def fnExactDecodeMessageWrong : ChangeSpec := { name := "fnExactDecodeMessage", fn := fun _ => fun
  | [d] => { results := [.lit (.bool false)], args := [d] }
  | _ => none }
def FnExactDecodeMessageWrongFalsely : Prop := fnExactDecodeMessageRow.holds Try.pinned (OpenSpec.ofChange fnExactDecodeMessageWrong)

/-- 'laws.FnBound': WHATEVER THE INPUT: true; the input reads as it did. -/
def fnBoundSpec : ChangeSpec := { name := "fnBound", fn := fun _ => fun
  | [d] => { results := [.lit (.bool true)], args := [d] }
  | _ => none }
def fnBoundRow : OpenClaim := { program := "ytpicohffjdndjaa", sum := "e35dde5c5ca68bb2bdabd62ff6c0f847735e1c4574db289d794ea3dff598451e", func := "loop.example/s01316/laws.FnBound", spec := "fnBound", unfollowed := true, recurses := true, apart := false }
def FnBoundSaid : Prop := fnBoundRow.holds Try.pinned (OpenSpec.ofChange fnBoundSpec)

/-- ITS FALSE NEIGHBOUR: 'it returns false'. Refute it at one input. -/
def fnBoundWrong : ChangeSpec := { name := "fnBound", fn := fun _ => fun
  | [d] => { results := [.lit (.bool false)], args := [d] }
  | _ => none }
def FnBoundWrongFalsely : Prop := fnBoundRow.holds Try.pinned (OpenSpec.ofChange fnBoundWrong)

/-- 'laws.FnExactLinkAcked': WHATEVER THE INPUT: true; the input reads as it did. -/
def fnExactLinkAckedSpec : ChangeSpec := { name := "fnExactLinkAcked", fn := fun _ => fun
  | [d1, d2] => { results := [.lit (.bool true)], args := [d1, d2] }
  | _ => none }
def fnExactLinkAckedRow : OpenClaim := { program := "ytpicohffjdndjaa", sum := "e35dde5c5ca68bb2bdabd62ff6c0f847735e1c4574db289d794ea3dff598451e", func := "loop.example/s01316/laws.FnExactLinkAcked", spec := "fnExactLinkAcked", unfollowed := true, recurses := true, apart := false }
def FnExactLinkAckedSaid : Prop := fnExactLinkAckedRow.holds Try.pinned (OpenSpec.ofChange fnExactLinkAckedSpec)

/-- ITS FALSE NEIGHBOUR: 'it returns false'. Refute it at one input. -/
def fnExactLinkAckedWrong : ChangeSpec := { name := "fnExactLinkAcked", fn := fun _ => fun
  | [d1, d2] => { results := [.lit (.bool false)], args := [d1, d2] }
  | _ => none }
def FnExactLinkAckedWrongFalsely : Prop := fnExactLinkAckedRow.holds Try.pinned (OpenSpec.ofChange fnExactLinkAckedWrong)

/-- 'laws.FnExactValidTable': WHATEVER THE INPUT: true; the input reads as it did. -/
def fnExactValidTableSpec : ChangeSpec := { name := "fnExactValidTable", fn := fun _ => fun
  | [d1, d2] => { results := [.lit (.bool true)], args := [d1, d2] }
  | _ => none }
def fnExactValidTableRow : OpenClaim := { program := "ytpicohffjdndjaa", sum := "e35dde5c5ca68bb2bdabd62ff6c0f847735e1c4574db289d794ea3dff598451e", func := "loop.example/s01316/laws.FnExactValidTable", spec := "fnExactValidTable", apart := false }
def FnExactValidTableSaid : Prop := fnExactValidTableRow.holds Try.pinned (OpenSpec.ofChange fnExactValidTableSpec)

/-- ITS FALSE NEIGHBOUR: 'it returns false'. Refute it at one input. -/
def fnExactValidTableWrong : ChangeSpec := { name := "fnExactValidTable", fn := fun _ => fun
  | [d1, d2] => { results := [.lit (.bool false)], args := [d1, d2] }
  | _ => none }
def FnExactValidTableWrongFalsely : Prop := fnExactValidTableRow.holds Try.pinned (OpenSpec.ofChange fnExactValidTableWrong)

/- THE SECOND FORM. 'bulk': how many values and letters a reading holds, each counted each time it is reached (what is shared counts as often as it is met; a slice's spare places count too). A statement '..UptoSaid' is the law's where the arguments, and the package variables that the reading takes, are together of bulk at most 1048576: NARROWER than '..Said'. Prove '..Said' where nothing that the law and all that it calls make is longer than what came in: it says more and counts as full. Else prove '..UptoSaid'. A law counts once. -/
mutual
def uptoBulk {H : Type} : DataW H → Nat
  | .lit (.string bytes) => bytes.length + 1
  | .lit _ => 1
  | .nil => 1
  | .ptr d => uptoBulk d + 1
  | .slice elems spare => uptoBulkAll elems + uptoBulkAll spare + 1
  | .agg parts => uptoBulkAll parts + 1
  | .iface _ d => uptoBulk d + 1
  | .map entries => uptoBulkEntries entries + 1
  | .held _ => 1
def uptoBulkAll {H : Type} : List (DataW H) → Nat
  | [] => 0
  | d :: r => uptoBulk d + uptoBulkAll r
def uptoBulkEntries {H : Type} : List (Lit × DataW H) → Nat
  | [] => 0
  | x :: r => uptoBulkEntry x + uptoBulkEntries r
def uptoBulkEntry {H : Type} : Lit × DataW H → Nat
  | (.string bytes, d) => bytes.length + uptoBulk d + 1
  | (_, d) => uptoBulk d + 1
 end
def uptoSmall : (H : Type) → List (DataW H) → Bool := fun _ ds => decide (uptoBulkAll ds ≤ 1048576)
def OpenSpec.upto (s : _root_.Go.ChangeSpec) : _root_.Go.OpenSpec := { _root_.Go.OpenSpec.ofChange s with cond := some uptoSmall }

/-- 'laws.FnExactValidDict', WHERE WHAT IT READS IS OF BULK AT MOST 1048576: true; the input reads as it did. -/
def fnExactValidDictUptoRow : OpenClaim := { program := "ytpicohffjdndjaa", sum := "e35dde5c5ca68bb2bdabd62ff6c0f847735e1c4574db289d794ea3dff598451e", func := "loop.example/s01316/laws.FnExactValidDict", spec := "fnExactValidDict", apart := false, narrowed := true }
def FnExactValidDictUptoSaid : Prop := fnExactValidDictUptoRow.holds Try.pinned (OpenSpec.upto fnExactValidDictSpec)

/-- 'laws.FnExactValidFields', WHERE WHAT IT READS IS OF BULK AT MOST 1048576: true; the input reads as it did. -/
def fnExactValidFieldsUptoRow : OpenClaim := { program := "ytpicohffjdndjaa", sum := "e35dde5c5ca68bb2bdabd62ff6c0f847735e1c4574db289d794ea3dff598451e", func := "loop.example/s01316/laws.FnExactValidFields", spec := "fnExactValidFields", apart := false, narrowed := true }
def FnExactValidFieldsUptoSaid : Prop := fnExactValidFieldsUptoRow.holds Try.pinned (OpenSpec.upto fnExactValidFieldsSpec)

/-- 'laws.FnExactApplyDict', WHERE WHAT IT READS IS OF BULK AT MOST 1048576: true; the input reads as it did. -/
def fnExactApplyDictUptoRow : OpenClaim := { program := "ytpicohffjdndjaa", sum := "e35dde5c5ca68bb2bdabd62ff6c0f847735e1c4574db289d794ea3dff598451e", func := "loop.example/s01316/laws.FnExactApplyDict", spec := "fnExactApplyDict", apart := false, narrowed := true }
def FnExactApplyDictUptoSaid : Prop := fnExactApplyDictUptoRow.holds Try.pinned (OpenSpec.upto fnExactApplyDictSpec)

/-- 'laws.FnExactEncodePacket', WHERE WHAT IT READS IS OF BULK AT MOST 1048576: true; the input reads as it did. -/
def fnExactEncodePacketUptoRow : OpenClaim := { program := "ytpicohffjdndjaa", sum := "e35dde5c5ca68bb2bdabd62ff6c0f847735e1c4574db289d794ea3dff598451e", func := "loop.example/s01316/laws.FnExactEncodePacket", spec := "fnExactEncodePacket", apart := false, narrowed := true }
def FnExactEncodePacketUptoSaid : Prop := fnExactEncodePacketUptoRow.holds Try.pinned (OpenSpec.upto fnExactEncodePacketSpec)

/-- 'laws.FnBuffers', WHERE WHAT IT READS IS OF BULK AT MOST 1048576: true; the input reads as it did. -/
def fnBuffersUptoRow : OpenClaim := { program := "ytpicohffjdndjaa", sum := "e35dde5c5ca68bb2bdabd62ff6c0f847735e1c4574db289d794ea3dff598451e", func := "loop.example/s01316/laws.FnBuffers", spec := "fnBuffers", apart := false, narrowed := true }
def FnBuffersUptoSaid : Prop := fnBuffersUptoRow.holds Try.pinned (OpenSpec.upto fnBuffersSpec)

/-- 'laws.FnExactDecodePacket', WHERE WHAT IT READS IS OF BULK AT MOST 1048576: true; the input reads as it did. -/
def fnExactDecodePacketUptoRow : OpenClaim := { program := "ytpicohffjdndjaa", sum := "e35dde5c5ca68bb2bdabd62ff6c0f847735e1c4574db289d794ea3dff598451e", func := "loop.example/s01316/laws.FnExactDecodePacket", spec := "fnExactDecodePacket", apart := false, narrowed := true }
def FnExactDecodePacketUptoSaid : Prop := fnExactDecodePacketUptoRow.holds Try.pinned (OpenSpec.upto fnExactDecodePacketSpec)

/-- 'laws.FnExactEncodeMessage', WHERE WHAT IT READS IS OF BULK AT MOST 1048576: true; the input reads as it did. -/
def fnExactEncodeMessageUptoRow : OpenClaim := { program := "ytpicohffjdndjaa", sum := "e35dde5c5ca68bb2bdabd62ff6c0f847735e1c4574db289d794ea3dff598451e", func := "loop.example/s01316/laws.FnExactEncodeMessage", spec := "fnExactEncodeMessage", apart := false, narrowed := true }
def FnExactEncodeMessageUptoSaid : Prop := fnExactEncodeMessageUptoRow.holds Try.pinned (OpenSpec.upto fnExactEncodeMessageSpec)

/-- 'laws.FnExactValidStream', WHERE WHAT IT READS IS OF BULK AT MOST 1048576: true; the input reads as it did. -/
def fnExactValidStreamUptoRow : OpenClaim := { program := "ytpicohffjdndjaa", sum := "e35dde5c5ca68bb2bdabd62ff6c0f847735e1c4574db289d794ea3dff598451e", func := "loop.example/s01316/laws.FnExactValidStream", spec := "fnExactValidStream", apart := false, narrowed := true }
def FnExactValidStreamUptoSaid : Prop := fnExactValidStreamUptoRow.holds Try.pinned (OpenSpec.upto fnExactValidStreamSpec)

/-- 'laws.FnExactDecodeMessage', WHERE WHAT IT READS IS OF BULK AT MOST 1048576: true; the input reads as it did. -/
def fnExactDecodeMessageUptoRow : OpenClaim := { program := "ytpicohffjdndjaa", sum := "e35dde5c5ca68bb2bdabd62ff6c0f847735e1c4574db289d794ea3dff598451e", func := "loop.example/s01316/laws.FnExactDecodeMessage", spec := "fnExactDecodeMessage", apart := false, narrowed := true }
def FnExactDecodeMessageUptoSaid : Prop := fnExactDecodeMessageUptoRow.holds Try.pinned (OpenSpec.upto fnExactDecodeMessageSpec)

/-- 'laws.FnBound', WHERE WHAT IT READS IS OF BULK AT MOST 1048576: true; the input reads as it did. -/
def fnBoundUptoRow : OpenClaim := { program := "ytpicohffjdndjaa", sum := "e35dde5c5ca68bb2bdabd62ff6c0f847735e1c4574db289d794ea3dff598451e", func := "loop.example/s01316/laws.FnBound", spec := "fnBound", unfollowed := true, recurses := true, apart := false, narrowed := true }
def FnBoundUptoSaid : Prop := fnBoundUptoRow.holds Try.pinned (OpenSpec.upto fnBoundSpec)

/-- 'laws.FnExactLinkAcked', WHERE WHAT IT READS IS OF BULK AT MOST 1048576: true; the input reads as it did. -/
def fnExactLinkAckedUptoRow : OpenClaim := { program := "ytpicohffjdndjaa", sum := "e35dde5c5ca68bb2bdabd62ff6c0f847735e1c4574db289d794ea3dff598451e", func := "loop.example/s01316/laws.FnExactLinkAcked", spec := "fnExactLinkAcked", unfollowed := true, recurses := true, apart := false, narrowed := true }
def FnExactLinkAckedUptoSaid : Prop := fnExactLinkAckedUptoRow.holds Try.pinned (OpenSpec.upto fnExactLinkAckedSpec)

/-- 'laws.FnExactValidTable', WHERE WHAT IT READS IS OF BULK AT MOST 1048576: true; the input reads as it did. -/
def fnExactValidTableUptoRow : OpenClaim := { program := "ytpicohffjdndjaa", sum := "e35dde5c5ca68bb2bdabd62ff6c0f847735e1c4574db289d794ea3dff598451e", func := "loop.example/s01316/laws.FnExactValidTable", spec := "fnExactValidTable", apart := false, narrowed := true }
def FnExactValidTableUptoSaid : Prop := fnExactValidTableUptoRow.holds Try.pinned (OpenSpec.upto fnExactValidTableSpec)

end Rows
end Go.Proofs.Ytpicohffjdndjaa
