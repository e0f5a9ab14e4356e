/-
  No cell of these rows narrows 'for every input' (looked for: loops, veiled, ifaces, maps, wideKeys, modest, calm, conditions, laid).
  DERIVED. THE GIVEN ROWS OF THIS SEAT. 11 by the template 'for every input the law returns true; each argument reads behind the call as it read before'; 0 by the template 'total and deterministic' (their statements: YtlgdijjkegeccaaTotals.lean).
  GIVEN WITH THE SEED: the statements are not yours to turn. If you find one false, say at which input.
  Laid BY PROGRAM, IN A SANDBOX (cutbox-rows.mjs): the forced cells as the released guide's own fill.sh prints them over the translation 8f7852dfdd05aaeb… (all of the seat's roots in one cut). By AI agents, Wed Nov 11 2026. No macro, syntax, notation, axiom, sorry.
-/
import Derived.Test.YtlgdijjkegeccaaChecked
import GoSem.Claim
import GoSem.ClaimJoined
import GoSem.ClaimMapViews
import Derived.JoinedTies
import Derived.KernelRfl
namespace Go.Proofs.Ytlgdijjkegeccaa
/- THE CELL 'sum', in the pinned program and in every row, IS THE sha256 OF THE DUMP (.gsa) THAT YtlgdijjkegeccaaProg.lean LOADS. Nothing in Lean hashes anything: it is a label: what it is worth is what the hold of that sum in a sandbox is worth. -/
noncomputable def Try.pinned : Pinned := { name := "ytlgdijjkegeccaa", sum := "8f7852dfdd05aaeb4c40bf92b277121ca62bc1a2cf04211866d30b1f65a9cd27", checked := Try.checked }
namespace Rows
def none {H : Type} : Left H := { results := [], args := [] }

/-- 'laws.FnExactPeek': WHATEVER THE INPUT: true; the input reads as it did. -/
def fnExactPeekSpec : ChangeSpec := { name := "fnExactPeek", fn := fun _ => fun
  | [d1, d2] => { results := [.lit (.bool true)], args := [d1, d2] }
  | _ => none }
def fnExactPeekRow : OpenClaim := { program := "ytlgdijjkegeccaa", sum := "8f7852dfdd05aaeb4c40bf92b277121ca62bc1a2cf04211866d30b1f65a9cd27", func := "loop.example/g00098/laws.FnExactPeek", spec := "fnExactPeek", inPlace := ["internal/bytealg.IndexByteString", "internal/bytealg.IndexString"], unfollowed := true, recurses := true, named := ["internal/bytealg.MaxLen"], apart := false }
def FnExactPeekSaid : Prop := fnExactPeekRow.holds Try.pinned (OpenSpec.ofChange fnExactPeekSpec)

/-- ITS FALSE NEIGHBOUR: 'it returns false'. Refute it at one input. -/
def fnExactPeekWrong : ChangeSpec := { name := "fnExactPeek", fn := fun _ => fun
  | [d1, d2] => { results := [.lit (.bool false)], args := [d1, d2] }
  | _ => none }
def FnExactPeekWrongFalsely : Prop := fnExactPeekRow.holds Try.pinned (OpenSpec.ofChange fnExactPeekWrong)

/-- 'laws.FnExactReceive': WHATEVER THE INPUT: true; the input reads as it did. -/
def fnExactReceiveSpec : ChangeSpec := { name := "fnExactReceive", fn := fun _ => fun
  | [d1, d2] => { results := [.lit (.bool true)], args := [d1, d2] }
  | _ => none }
def fnExactReceiveRow : OpenClaim := { program := "ytlgdijjkegeccaa", sum := "8f7852dfdd05aaeb4c40bf92b277121ca62bc1a2cf04211866d30b1f65a9cd27", func := "loop.example/g00098/laws.FnExactReceive", spec := "fnExactReceive", inPlace := ["internal/bytealg.IndexByteString", "internal/bytealg.IndexString"], unfollowed := true, recurses := true, named := ["internal/bytealg.MaxLen"], apart := false }
def FnExactReceiveSaid : Prop := fnExactReceiveRow.holds Try.pinned (OpenSpec.ofChange fnExactReceiveSpec)

/-- ITS FALSE NEIGHBOUR: 'it returns false'. Refute it at one input. -/
def fnExactReceiveWrong : ChangeSpec := { name := "fnExactReceive", fn := fun _ => fun
  | [d1, d2] => { results := [.lit (.bool false)], args := [d1, d2] }
  | _ => none }
def FnExactReceiveWrongFalsely : Prop := fnExactReceiveRow.holds Try.pinned (OpenSpec.ofChange fnExactReceiveWrong)

/-- 'laws.FnExactPull': WHATEVER THE INPUT: true; the input reads as it did. -/
def fnExactPullSpec : ChangeSpec := { name := "fnExactPull", fn := fun _ => fun
  | [d1, d2, d3] => { results := [.lit (.bool true)], args := [d1, d2, d3] }
  | _ => none }
def fnExactPullRow : OpenClaim := { program := "ytlgdijjkegeccaa", sum := "8f7852dfdd05aaeb4c40bf92b277121ca62bc1a2cf04211866d30b1f65a9cd27", func := "loop.example/g00098/laws.FnExactPull", spec := "fnExactPull", inPlace := ["internal/bytealg.IndexByteString", "internal/bytealg.IndexString"], unfollowed := true, recurses := true, named := ["internal/bytealg.MaxLen"], apart := false }
def FnExactPullSaid : Prop := fnExactPullRow.holds Try.pinned (OpenSpec.ofChange fnExactPullSpec)

/-- ITS FALSE NEIGHBOUR: 'it returns false'. Refute it at one input. -/
def fnExactPullWrong : ChangeSpec := { name := "fnExactPull", fn := fun _ => fun
  | [d1, d2, d3] => { results := [.lit (.bool false)], args := [d1, d2, d3] }
  | _ => none }
def FnExactPullWrongFalsely : Prop := fnExactPullRow.holds Try.pinned (OpenSpec.ofChange fnExactPullWrong)

/-- 'laws.FnExactSend': WHATEVER THE INPUT: true; the input reads as it did. -/
def fnExactSendSpec : ChangeSpec := { name := "fnExactSend", fn := fun _ => fun
  | [d1, d2] => { results := [.lit (.bool true)], args := [d1, d2] }
  | _ => none }
def fnExactSendRow : OpenClaim := { program := "ytlgdijjkegeccaa", sum := "8f7852dfdd05aaeb4c40bf92b277121ca62bc1a2cf04211866d30b1f65a9cd27", func := "loop.example/g00098/laws.FnExactSend", spec := "fnExactSend", inPlace := ["internal/bytealg.IndexByteString", "internal/bytealg.IndexString"], unfollowed := true, recurses := true, named := ["internal/bytealg.MaxLen"], apart := false }
def FnExactSendSaid : Prop := fnExactSendRow.holds Try.pinned (OpenSpec.ofChange fnExactSendSpec)

/-- ITS FALSE NEIGHBOUR: 'it returns false'. Refute it at one input. -/
def fnExactSendWrong : ChangeSpec := { name := "fnExactSend", fn := fun _ => fun
  | [d1, d2] => { results := [.lit (.bool false)], args := [d1, d2] }
  | _ => none }
def FnExactSendWrongFalsely : Prop := fnExactSendRow.holds Try.pinned (OpenSpec.ofChange fnExactSendWrong)

/-- 'laws.FnExactUnsubscribe': WHATEVER THE INPUT: true; the input reads as it did. -/
def fnExactUnsubscribeSpec : ChangeSpec := { name := "fnExactUnsubscribe", fn := fun _ => fun
  | [d1, d2] => { results := [.lit (.bool true)], args := [d1, d2] }
  | _ => none }
def fnExactUnsubscribeRow : OpenClaim := { program := "ytlgdijjkegeccaa", sum := "8f7852dfdd05aaeb4c40bf92b277121ca62bc1a2cf04211866d30b1f65a9cd27", func := "loop.example/g00098/laws.FnExactUnsubscribe", spec := "fnExactUnsubscribe", unfollowed := true, recurses := true, apart := false }
def FnExactUnsubscribeSaid : Prop := fnExactUnsubscribeRow.holds Try.pinned (OpenSpec.ofChange fnExactUnsubscribeSpec)

/-- ITS FALSE NEIGHBOUR: 'it returns false'. Refute it at one input. -/
def fnExactUnsubscribeWrong : ChangeSpec := { name := "fnExactUnsubscribe", fn := fun _ => fun
  | [d1, d2] => { results := [.lit (.bool false)], args := [d1, d2] }
  | _ => none }
def FnExactUnsubscribeWrongFalsely : Prop := fnExactUnsubscribeRow.holds Try.pinned (OpenSpec.ofChange fnExactUnsubscribeWrong)

/-- 'laws.FnPeek': WHATEVER THE INPUT: true; the input reads as it did. -/
def fnPeekSpec : ChangeSpec := { name := "fnPeek", fn := fun _ => fun
  | [d] => { results := [.lit (.bool true)], args := [d] }
  | _ => none }
def fnPeekRow : OpenClaim := { program := "ytlgdijjkegeccaa", sum := "8f7852dfdd05aaeb4c40bf92b277121ca62bc1a2cf04211866d30b1f65a9cd27", func := "loop.example/g00098/laws.FnPeek", spec := "fnPeek", inPlace := ["internal/bytealg.IndexByteString", "internal/bytealg.IndexString"], unfollowed := true, recurses := true, named := ["internal/bytealg.MaxLen"], apart := false }
def FnPeekSaid : Prop := fnPeekRow.holds Try.pinned (OpenSpec.ofChange fnPeekSpec)

/-- ITS FALSE NEIGHBOUR: 'it returns false'. Refute it at one input. -/
def fnPeekWrong : ChangeSpec := { name := "fnPeek", fn := fun _ => fun
  | [d] => { results := [.lit (.bool false)], args := [d] }
  | _ => none }
def FnPeekWrongFalsely : Prop := fnPeekRow.holds Try.pinned (OpenSpec.ofChange fnPeekWrong)

/-- 'laws.FnDrain': WHATEVER THE INPUT: true; the input reads as it did. -/
def fnDrainSpec : ChangeSpec := { name := "fnDrain", fn := fun _ => fun
  | [d] => { results := [.lit (.bool true)], args := [d] }
  | _ => none }
def fnDrainRow : OpenClaim := { program := "ytlgdijjkegeccaa", sum := "8f7852dfdd05aaeb4c40bf92b277121ca62bc1a2cf04211866d30b1f65a9cd27", func := "loop.example/g00098/laws.FnDrain", spec := "fnDrain", inPlace := ["internal/bytealg.IndexByteString", "internal/bytealg.IndexString"], unfollowed := true, recurses := true, named := ["internal/bytealg.MaxLen"], apart := false }
def FnDrainSaid : Prop := fnDrainRow.holds Try.pinned (OpenSpec.ofChange fnDrainSpec)

/-- ITS FALSE NEIGHBOUR: 'it returns false'. Refute it at one input. -/
def fnDrainWrong : ChangeSpec := { name := "fnDrain", fn := fun _ => fun
  | [d] => { results := [.lit (.bool false)], args := [d] }
  | _ => none }
def FnDrainWrongFalsely : Prop := fnDrainRow.holds Try.pinned (OpenSpec.ofChange fnDrainWrong)

/-- 'laws.FnSkip': WHATEVER THE INPUT: true; the input reads as it did. -/
def fnSkipSpec : ChangeSpec := { name := "fnSkip", fn := fun _ => fun
  | [d] => { results := [.lit (.bool true)], args := [d] }
  | _ => none }
def fnSkipRow : OpenClaim := { program := "ytlgdijjkegeccaa", sum := "8f7852dfdd05aaeb4c40bf92b277121ca62bc1a2cf04211866d30b1f65a9cd27", func := "loop.example/g00098/laws.FnSkip", spec := "fnSkip", inPlace := ["internal/bytealg.IndexByteString", "internal/bytealg.IndexString"], unfollowed := true, recurses := true, named := ["internal/bytealg.MaxLen"], apart := false }
def FnSkipSaid : Prop := fnSkipRow.holds Try.pinned (OpenSpec.ofChange fnSkipSpec)

/-- ITS FALSE NEIGHBOUR: 'it returns false'. Refute it at one input. -/
def fnSkipWrong : ChangeSpec := { name := "fnSkip", fn := fun _ => fun
  | [d] => { results := [.lit (.bool false)], args := [d] }
  | _ => none }
def FnSkipWrongFalsely : Prop := fnSkipRow.holds Try.pinned (OpenSpec.ofChange fnSkipWrong)

/-- 'laws.FnPullOn': WHATEVER THE INPUT: true; the input reads as it did. -/
def fnPullOnSpec : ChangeSpec := { name := "fnPullOn", fn := fun _ => fun
  | [d] => { results := [.lit (.bool true)], args := [d] }
  | _ => none }
def fnPullOnRow : OpenClaim := { program := "ytlgdijjkegeccaa", sum := "8f7852dfdd05aaeb4c40bf92b277121ca62bc1a2cf04211866d30b1f65a9cd27", func := "loop.example/g00098/laws.FnPullOn", spec := "fnPullOn", inPlace := ["internal/bytealg.IndexByteString", "internal/bytealg.IndexString"], unfollowed := true, recurses := true, named := ["internal/bytealg.MaxLen"], apart := false }
def FnPullOnSaid : Prop := fnPullOnRow.holds Try.pinned (OpenSpec.ofChange fnPullOnSpec)

/-- ITS FALSE NEIGHBOUR: 'it returns false'. Refute it at one input. -/
def fnPullOnWrong : ChangeSpec := { name := "fnPullOn", fn := fun _ => fun
  | [d] => { results := [.lit (.bool false)], args := [d] }
  | _ => none }
def FnPullOnWrongFalsely : Prop := fnPullOnRow.holds Try.pinned (OpenSpec.ofChange fnPullOnWrong)

/-- 'laws.FnLag': WHATEVER THE INPUT: true; the input reads as it did. -/
def fnLagSpec : ChangeSpec := { name := "fnLag", fn := fun _ => fun
  | [d] => { results := [.lit (.bool true)], args := [d] }
  | _ => none }
def fnLagRow : OpenClaim := { program := "ytlgdijjkegeccaa", sum := "8f7852dfdd05aaeb4c40bf92b277121ca62bc1a2cf04211866d30b1f65a9cd27", func := "loop.example/g00098/laws.FnLag", spec := "fnLag", inPlace := ["internal/bytealg.IndexByteString", "internal/bytealg.IndexString"], unfollowed := true, recurses := true, named := ["internal/bytealg.MaxLen"], apart := false }
def FnLagSaid : Prop := fnLagRow.holds Try.pinned (OpenSpec.ofChange fnLagSpec)

/-- ITS FALSE NEIGHBOUR: 'it returns false'. Refute it at one input. -/
def fnLagWrong : ChangeSpec := { name := "fnLag", fn := fun _ => fun
  | [d] => { results := [.lit (.bool false)], args := [d] }
  | _ => none }
def FnLagWrongFalsely : Prop := fnLagRow.holds Try.pinned (OpenSpec.ofChange fnLagWrong)

/-- 'laws.FnKept': WHATEVER THE INPUT: true; the input reads as it did. -/
def fnKeptSpec : ChangeSpec := { name := "fnKept", fn := fun _ => fun
  | [d] => { results := [.lit (.bool true)], args := [d] }
  | _ => none }
def fnKeptRow : OpenClaim := { program := "ytlgdijjkegeccaa", sum := "8f7852dfdd05aaeb4c40bf92b277121ca62bc1a2cf04211866d30b1f65a9cd27", func := "loop.example/g00098/laws.FnKept", spec := "fnKept", unfollowed := true, recurses := true, apart := false }
def FnKeptSaid : Prop := fnKeptRow.holds Try.pinned (OpenSpec.ofChange fnKeptSpec)

/-- ITS FALSE NEIGHBOUR: 'it returns false'. Refute it at one input. -/
def fnKeptWrong : ChangeSpec := { name := "fnKept", fn := fun _ => fun
  | [d] => { results := [.lit (.bool false)], args := [d] }
  | _ => none }
def FnKeptWrongFalsely : Prop := fnKeptRow.holds Try.pinned (OpenSpec.ofChange fnKeptWrong)

/- THE SECOND FORM. 'bulk': how many values and letters a reading holds, each counted each time it is reached (what is shared counts as often as it is met; a slice's spare places count too). A statement '..UptoSaid' is the law's where the arguments, and the package variables that the reading takes, are together of bulk at most 1048576: NARROWER than '..Said'. Prove '..Said' where nothing that the law and all that it calls make is longer than what came in: it says more and counts as full. Else prove '..UptoSaid'. A law counts once. -/
mutual
def uptoBulk {H : Type} : DataW H → Nat
  | .lit (.string bytes) => bytes.length + 1
  | .lit _ => 1
  | .nil => 1
  | .ptr d => uptoBulk d + 1
  | .slice elems spare => uptoBulkAll elems + uptoBulkAll spare + 1
  | .agg parts => uptoBulkAll parts + 1
  | .iface _ d => uptoBulk d + 1
  | .map entries => uptoBulkEntries entries + 1
  | .held _ => 1
def uptoBulkAll {H : Type} : List (DataW H) → Nat
  | [] => 0
  | d :: r => uptoBulk d + uptoBulkAll r
def uptoBulkEntries {H : Type} : List (Lit × DataW H) → Nat
  | [] => 0
  | x :: r => uptoBulkEntry x + uptoBulkEntries r
def uptoBulkEntry {H : Type} : Lit × DataW H → Nat
  | (.string bytes, d) => bytes.length + uptoBulk d + 1
  | (_, d) => uptoBulk d + 1
 end
def uptoSmall : (H : Type) → List (DataW H) → Bool := fun _ ds => decide (uptoBulkAll ds ≤ 1048576)
def OpenSpec.upto (s : _root_.Go.ChangeSpec) : _root_.Go.OpenSpec := { _root_.Go.OpenSpec.ofChange s with cond := some uptoSmall }

/-- 'laws.FnExactPeek', WHERE WHAT IT READS IS OF BULK AT MOST 1048576: true; the input reads as it did. -/
def fnExactPeekUptoRow : OpenClaim := { program := "ytlgdijjkegeccaa", sum := "8f7852dfdd05aaeb4c40bf92b277121ca62bc1a2cf04211866d30b1f65a9cd27", func := "loop.example/g00098/laws.FnExactPeek", spec := "fnExactPeek", inPlace := ["internal/bytealg.IndexByteString", "internal/bytealg.IndexString"], unfollowed := true, recurses := true, named := ["internal/bytealg.MaxLen"], apart := false, narrowed := true }
def FnExactPeekUptoSaid : Prop := fnExactPeekUptoRow.holds Try.pinned (OpenSpec.upto fnExactPeekSpec)

/-- 'laws.FnExactReceive', WHERE WHAT IT READS IS OF BULK AT MOST 1048576: true; the input reads as it did. -/
def fnExactReceiveUptoRow : OpenClaim := { program := "ytlgdijjkegeccaa", sum := "8f7852dfdd05aaeb4c40bf92b277121ca62bc1a2cf04211866d30b1f65a9cd27", func := "loop.example/g00098/laws.FnExactReceive", spec := "fnExactReceive", inPlace := ["internal/bytealg.IndexByteString", "internal/bytealg.IndexString"], unfollowed := true, recurses := true, named := ["internal/bytealg.MaxLen"], apart := false, narrowed := true }
def FnExactReceiveUptoSaid : Prop := fnExactReceiveUptoRow.holds Try.pinned (OpenSpec.upto fnExactReceiveSpec)

/-- 'laws.FnExactPull', WHERE WHAT IT READS IS OF BULK AT MOST 1048576: true; the input reads as it did. -/
def fnExactPullUptoRow : OpenClaim := { program := "ytlgdijjkegeccaa", sum := "8f7852dfdd05aaeb4c40bf92b277121ca62bc1a2cf04211866d30b1f65a9cd27", func := "loop.example/g00098/laws.FnExactPull", spec := "fnExactPull", inPlace := ["internal/bytealg.IndexByteString", "internal/bytealg.IndexString"], unfollowed := true, recurses := true, named := ["internal/bytealg.MaxLen"], apart := false, narrowed := true }
def FnExactPullUptoSaid : Prop := fnExactPullUptoRow.holds Try.pinned (OpenSpec.upto fnExactPullSpec)

/-- 'laws.FnExactSend', WHERE WHAT IT READS IS OF BULK AT MOST 1048576: true; the input reads as it did. -/
def fnExactSendUptoRow : OpenClaim := { program := "ytlgdijjkegeccaa", sum := "8f7852dfdd05aaeb4c40bf92b277121ca62bc1a2cf04211866d30b1f65a9cd27", func := "loop.example/g00098/laws.FnExactSend", spec := "fnExactSend", inPlace := ["internal/bytealg.IndexByteString", "internal/bytealg.IndexString"], unfollowed := true, recurses := true, named := ["internal/bytealg.MaxLen"], apart := false, narrowed := true }
def FnExactSendUptoSaid : Prop := fnExactSendUptoRow.holds Try.pinned (OpenSpec.upto fnExactSendSpec)

/-- 'laws.FnExactUnsubscribe', WHERE WHAT IT READS IS OF BULK AT MOST 1048576: true; the input reads as it did. -/
def fnExactUnsubscribeUptoRow : OpenClaim := { program := "ytlgdijjkegeccaa", sum := "8f7852dfdd05aaeb4c40bf92b277121ca62bc1a2cf04211866d30b1f65a9cd27", func := "loop.example/g00098/laws.FnExactUnsubscribe", spec := "fnExactUnsubscribe", unfollowed := true, recurses := true, apart := false, narrowed := true }
def FnExactUnsubscribeUptoSaid : Prop := fnExactUnsubscribeUptoRow.holds Try.pinned (OpenSpec.upto fnExactUnsubscribeSpec)

/-- 'laws.FnPeek', WHERE WHAT IT READS IS OF BULK AT MOST 1048576: true; the input reads as it did. -/
def fnPeekUptoRow : OpenClaim := { program := "ytlgdijjkegeccaa", sum := "8f7852dfdd05aaeb4c40bf92b277121ca62bc1a2cf04211866d30b1f65a9cd27", func := "loop.example/g00098/laws.FnPeek", spec := "fnPeek", inPlace := ["internal/bytealg.IndexByteString", "internal/bytealg.IndexString"], unfollowed := true, recurses := true, named := ["internal/bytealg.MaxLen"], apart := false, narrowed := true }
def FnPeekUptoSaid : Prop := fnPeekUptoRow.holds Try.pinned (OpenSpec.upto fnPeekSpec)

/-- 'laws.FnDrain', WHERE WHAT IT READS IS OF BULK AT MOST 1048576: true; the input reads as it did. -/
def fnDrainUptoRow : OpenClaim := { program := "ytlgdijjkegeccaa", sum := "8f7852dfdd05aaeb4c40bf92b277121ca62bc1a2cf04211866d30b1f65a9cd27", func := "loop.example/g00098/laws.FnDrain", spec := "fnDrain", inPlace := ["internal/bytealg.IndexByteString", "internal/bytealg.IndexString"], unfollowed := true, recurses := true, named := ["internal/bytealg.MaxLen"], apart := false, narrowed := true }
def FnDrainUptoSaid : Prop := fnDrainUptoRow.holds Try.pinned (OpenSpec.upto fnDrainSpec)

/-- 'laws.FnSkip', WHERE WHAT IT READS IS OF BULK AT MOST 1048576: true; the input reads as it did. -/
def fnSkipUptoRow : OpenClaim := { program := "ytlgdijjkegeccaa", sum := "8f7852dfdd05aaeb4c40bf92b277121ca62bc1a2cf04211866d30b1f65a9cd27", func := "loop.example/g00098/laws.FnSkip", spec := "fnSkip", inPlace := ["internal/bytealg.IndexByteString", "internal/bytealg.IndexString"], unfollowed := true, recurses := true, named := ["internal/bytealg.MaxLen"], apart := false, narrowed := true }
def FnSkipUptoSaid : Prop := fnSkipUptoRow.holds Try.pinned (OpenSpec.upto fnSkipSpec)

/-- 'laws.FnPullOn', WHERE WHAT IT READS IS OF BULK AT MOST 1048576: true; the input reads as it did. -/
def fnPullOnUptoRow : OpenClaim := { program := "ytlgdijjkegeccaa", sum := "8f7852dfdd05aaeb4c40bf92b277121ca62bc1a2cf04211866d30b1f65a9cd27", func := "loop.example/g00098/laws.FnPullOn", spec := "fnPullOn", inPlace := ["internal/bytealg.IndexByteString", "internal/bytealg.IndexString"], unfollowed := true, recurses := true, named := ["internal/bytealg.MaxLen"], apart := false, narrowed := true }
def FnPullOnUptoSaid : Prop := fnPullOnUptoRow.holds Try.pinned (OpenSpec.upto fnPullOnSpec)

/-- 'laws.FnLag', WHERE WHAT IT READS IS OF BULK AT MOST 1048576: true; the input reads as it did. -/
def fnLagUptoRow : OpenClaim := { program := "ytlgdijjkegeccaa", sum := "8f7852dfdd05aaeb4c40bf92b277121ca62bc1a2cf04211866d30b1f65a9cd27", func := "loop.example/g00098/laws.FnLag", spec := "fnLag", inPlace := ["internal/bytealg.IndexByteString", "internal/bytealg.IndexString"], unfollowed := true, recurses := true, named := ["internal/bytealg.MaxLen"], apart := false, narrowed := true }
def FnLagUptoSaid : Prop := fnLagUptoRow.holds Try.pinned (OpenSpec.upto fnLagSpec)

/-- 'laws.FnKept', WHERE WHAT IT READS IS OF BULK AT MOST 1048576: true; the input reads as it did. -/
def fnKeptUptoRow : OpenClaim := { program := "ytlgdijjkegeccaa", sum := "8f7852dfdd05aaeb4c40bf92b277121ca62bc1a2cf04211866d30b1f65a9cd27", func := "loop.example/g00098/laws.FnKept", spec := "fnKept", unfollowed := true, recurses := true, apart := false, narrowed := true }
def FnKeptUptoSaid : Prop := fnKeptUptoRow.holds Try.pinned (OpenSpec.upto fnKeptSpec)

end Rows
end Go.Proofs.Ytlgdijjkegeccaa
