/-
  No cell of these rows narrows 'for every input' (looked for: loops, veiled, ifaces, maps, wideKeys, modest, calm, conditions, laid).
  DERIVED. THE GIVEN ROWS OF THIS SEAT. 12 by the template 'for every input the law returns true; each argument reads behind the call as it read before'; 0 by the template 'total and deterministic' (their statements: YtcgkejggkenecaaTotals.lean).
  GIVEN WITH THE SEED: the statements are not yours to turn. If you find one false, say at which input.
  Laid BY PROGRAM, IN A SANDBOX (cutbox-rows.mjs): the forced cells as the released guide's own fill.sh prints them over the translation 197e24f12962dc8b… (all of the seat's roots in one cut). By AI agents, Wed Nov 11 2026. No macro, syntax, notation, axiom, sorry.
-/
import Derived.Test.YtcgkejggkenecaaChecked
import GoSem.Claim
import GoSem.ClaimJoined
import GoSem.ClaimMapViews
import Derived.JoinedTies
import Derived.KernelRfl
namespace Go.Proofs.Ytcgkejggkenecaa
/- THE CELL 'sum', in the pinned program and in every row, IS THE sha256 OF THE DUMP (.gsa) THAT YtcgkejggkenecaaProg.lean LOADS. Nothing in Lean hashes anything: it is a label: what it is worth is what the hold of that sum in a sandbox is worth. -/
noncomputable def Try.pinned : Pinned := { name := "ytcgkejggkenecaa", sum := "197e24f12962dc8b904400bb4b69f260941569087d08624ee5b2ad32e64b4d9e", checked := Try.checked }
namespace Rows
def none {H : Type} : Left H := { results := [], args := [] }

/-- 'laws.FnExactRingOk': WHATEVER THE INPUT: true; the input reads as it did. -/
def fnExactRingOkSpec : ChangeSpec := { name := "fnExactRingOk", fn := fun _ => fun
  | [d] => { results := [.lit (.bool true)], args := [d] }
  | _ => none }
def fnExactRingOkRow : OpenClaim := { program := "ytcgkejggkenecaa", sum := "197e24f12962dc8b904400bb4b69f260941569087d08624ee5b2ad32e64b4d9e", func := "loop.example/g00098/laws.FnExactRingOk", spec := "fnExactRingOk", unfollowed := true, recurses := true, apart := false }
def FnExactRingOkSaid : Prop := fnExactRingOkRow.holds Try.pinned (OpenSpec.ofChange fnExactRingOkSpec)

/-- ITS FALSE NEIGHBOUR: 'it returns false'. Refute it at one input. -/
def fnExactRingOkWrong : ChangeSpec := { name := "fnExactRingOk", fn := fun _ => fun
  | [d] => { results := [.lit (.bool false)], args := [d] }
  | _ => none }
def FnExactRingOkWrongFalsely : Prop := fnExactRingOkRow.holds Try.pinned (OpenSpec.ofChange fnExactRingOkWrong)

/-- 'laws.FnExactLag': WHATEVER THE INPUT: true; the input reads as it did. -/
def fnExactLagSpec : ChangeSpec := { name := "fnExactLag", fn := fun _ => fun
  | [d1, d2] => { results := [.lit (.bool true)], args := [d1, d2] }
  | _ => none }
def fnExactLagRow : OpenClaim := { program := "ytcgkejggkenecaa", sum := "197e24f12962dc8b904400bb4b69f260941569087d08624ee5b2ad32e64b4d9e", func := "loop.example/g00098/laws.FnExactLag", spec := "fnExactLag", unfollowed := true, recurses := true, apart := false }
def FnExactLagSaid : Prop := fnExactLagRow.holds Try.pinned (OpenSpec.ofChange fnExactLagSpec)

/-- ITS FALSE NEIGHBOUR: 'it returns false'. Refute it at one input. -/
def fnExactLagWrong : ChangeSpec := { name := "fnExactLag", fn := fun _ => fun
  | [d1, d2] => { results := [.lit (.bool false)], args := [d1, d2] }
  | _ => none }
def FnExactLagWrongFalsely : Prop := fnExactLagRow.holds Try.pinned (OpenSpec.ofChange fnExactLagWrong)

/-- 'laws.FnExactBalance': WHATEVER THE INPUT: true; the input reads as it did. -/
def fnExactBalanceSpec : ChangeSpec := { name := "fnExactBalance", fn := fun _ => fun
  | [d] => { results := [.lit (.bool true)], args := [d] }
  | _ => none }
def fnExactBalanceRow : OpenClaim := { program := "ytcgkejggkenecaa", sum := "197e24f12962dc8b904400bb4b69f260941569087d08624ee5b2ad32e64b4d9e", func := "loop.example/g00098/laws.FnExactBalance", spec := "fnExactBalance", unfollowed := true, recurses := true, apart := false }
def FnExactBalanceSaid : Prop := fnExactBalanceRow.holds Try.pinned (OpenSpec.ofChange fnExactBalanceSpec)

/-- ITS FALSE NEIGHBOUR: 'it returns false'. Refute it at one input. -/
def fnExactBalanceWrong : ChangeSpec := { name := "fnExactBalance", fn := fun _ => fun
  | [d] => { results := [.lit (.bool false)], args := [d] }
  | _ => none }
def FnExactBalanceWrongFalsely : Prop := fnExactBalanceRow.holds Try.pinned (OpenSpec.ofChange fnExactBalanceWrong)

/-- 'laws.FnExactCloseRing': WHATEVER THE INPUT: true; the input reads as it did. -/
def fnExactCloseRingSpec : ChangeSpec := { name := "fnExactCloseRing", fn := fun _ => fun
  | [d] => { results := [.lit (.bool true)], args := [d] }
  | _ => none }
def fnExactCloseRingRow : OpenClaim := { program := "ytcgkejggkenecaa", sum := "197e24f12962dc8b904400bb4b69f260941569087d08624ee5b2ad32e64b4d9e", func := "loop.example/g00098/laws.FnExactCloseRing", spec := "fnExactCloseRing", unfollowed := true, recurses := true, apart := false }
def FnExactCloseRingSaid : Prop := fnExactCloseRingRow.holds Try.pinned (OpenSpec.ofChange fnExactCloseRingSpec)

/-- ITS FALSE NEIGHBOUR: 'it returns false'. Refute it at one input. -/
def fnExactCloseRingWrong : ChangeSpec := { name := "fnExactCloseRing", fn := fun _ => fun
  | [d] => { results := [.lit (.bool false)], args := [d] }
  | _ => none }
def FnExactCloseRingWrongFalsely : Prop := fnExactCloseRingRow.holds Try.pinned (OpenSpec.ofChange fnExactCloseRingWrong)

/-- 'laws.FnExactSubscribe': WHATEVER THE INPUT: true; the input reads as it did. -/
def fnExactSubscribeSpec : ChangeSpec := { name := "fnExactSubscribe", fn := fun _ => fun
  | [d1, d2, d3] => { results := [.lit (.bool true)], args := [d1, d2, d3] }
  | _ => none }
def fnExactSubscribeRow : OpenClaim := { program := "ytcgkejggkenecaa", sum := "197e24f12962dc8b904400bb4b69f260941569087d08624ee5b2ad32e64b4d9e", func := "loop.example/g00098/laws.FnExactSubscribe", spec := "fnExactSubscribe", unfollowed := true, recurses := true, apart := false }
def FnExactSubscribeSaid : Prop := fnExactSubscribeRow.holds Try.pinned (OpenSpec.ofChange fnExactSubscribeSpec)

/-- ITS FALSE NEIGHBOUR: 'it returns false'. Refute it at one input. -/
def fnExactSubscribeWrong : ChangeSpec := { name := "fnExactSubscribe", fn := fun _ => fun
  | [d1, d2, d3] => { results := [.lit (.bool false)], args := [d1, d2, d3] }
  | _ => none }
def FnExactSubscribeWrongFalsely : Prop := fnExactSubscribeRow.holds Try.pinned (OpenSpec.ofChange fnExactSubscribeWrong)

/-- 'laws.FnExactUnwait': WHATEVER THE INPUT: true; the input reads as it did. -/
def fnExactUnwaitSpec : ChangeSpec := { name := "fnExactUnwait", fn := fun _ => fun
  | [d1, d2] => { results := [.lit (.bool true)], args := [d1, d2] }
  | _ => none }
def fnExactUnwaitRow : OpenClaim := { program := "ytcgkejggkenecaa", sum := "197e24f12962dc8b904400bb4b69f260941569087d08624ee5b2ad32e64b4d9e", func := "loop.example/g00098/laws.FnExactUnwait", spec := "fnExactUnwait", unfollowed := true, recurses := true, apart := false }
def FnExactUnwaitSaid : Prop := fnExactUnwaitRow.holds Try.pinned (OpenSpec.ofChange fnExactUnwaitSpec)

/-- ITS FALSE NEIGHBOUR: 'it returns false'. Refute it at one input. -/
def fnExactUnwaitWrong : ChangeSpec := { name := "fnExactUnwait", fn := fun _ => fun
  | [d1, d2] => { results := [.lit (.bool false)], args := [d1, d2] }
  | _ => none }
def FnExactUnwaitWrongFalsely : Prop := fnExactUnwaitRow.holds Try.pinned (OpenSpec.ofChange fnExactUnwaitWrong)

/-- 'laws.FnExactSkipTo': WHATEVER THE INPUT: true; the input reads as it did. -/
def fnExactSkipToSpec : ChangeSpec := { name := "fnExactSkipTo", fn := fun _ => fun
  | [d1, d2, d3] => { results := [.lit (.bool true)], args := [d1, d2, d3] }
  | _ => none }
def fnExactSkipToRow : OpenClaim := { program := "ytcgkejggkenecaa", sum := "197e24f12962dc8b904400bb4b69f260941569087d08624ee5b2ad32e64b4d9e", func := "loop.example/g00098/laws.FnExactSkipTo", spec := "fnExactSkipTo", unfollowed := true, recurses := true, apart := false }
def FnExactSkipToSaid : Prop := fnExactSkipToRow.holds Try.pinned (OpenSpec.ofChange fnExactSkipToSpec)

/-- ITS FALSE NEIGHBOUR: 'it returns false'. Refute it at one input. -/
def fnExactSkipToWrong : ChangeSpec := { name := "fnExactSkipTo", fn := fun _ => fun
  | [d1, d2, d3] => { results := [.lit (.bool false)], args := [d1, d2, d3] }
  | _ => none }
def FnExactSkipToWrongFalsely : Prop := fnExactSkipToRow.holds Try.pinned (OpenSpec.ofChange fnExactSkipToWrong)

/-- 'laws.FnExactUnsubscribe': WHATEVER THE INPUT: true; the input reads as it did. -/
def fnExactUnsubscribeSpec : ChangeSpec := { name := "fnExactUnsubscribe", fn := fun _ => fun
  | [d1, d2] => { results := [.lit (.bool true)], args := [d1, d2] }
  | _ => none }
def fnExactUnsubscribeRow : OpenClaim := { program := "ytcgkejggkenecaa", sum := "197e24f12962dc8b904400bb4b69f260941569087d08624ee5b2ad32e64b4d9e", func := "loop.example/g00098/laws.FnExactUnsubscribe", spec := "fnExactUnsubscribe", unfollowed := true, recurses := true, apart := false }
def FnExactUnsubscribeSaid : Prop := fnExactUnsubscribeRow.holds Try.pinned (OpenSpec.ofChange fnExactUnsubscribeSpec)

/-- ITS FALSE NEIGHBOUR: 'it returns false'. Refute it at one input. -/
def fnExactUnsubscribeWrong : ChangeSpec := { name := "fnExactUnsubscribe", fn := fun _ => fun
  | [d1, d2] => { results := [.lit (.bool false)], args := [d1, d2] }
  | _ => none }
def FnExactUnsubscribeWrongFalsely : Prop := fnExactUnsubscribeRow.holds Try.pinned (OpenSpec.ofChange fnExactUnsubscribeWrong)

/-- 'laws.FnExactPeek': WHATEVER THE INPUT: true; the input reads as it did. -/
def fnExactPeekSpec : ChangeSpec := { name := "fnExactPeek", fn := fun _ => fun
  | [d1, d2] => { results := [.lit (.bool true)], args := [d1, d2] }
  | _ => none }
def fnExactPeekRow : OpenClaim := { program := "ytcgkejggkenecaa", sum := "197e24f12962dc8b904400bb4b69f260941569087d08624ee5b2ad32e64b4d9e", func := "loop.example/g00098/laws.FnExactPeek", spec := "fnExactPeek", inPlace := ["internal/bytealg.IndexByteString", "internal/bytealg.IndexString"], unfollowed := true, recurses := true, named := ["internal/bytealg.MaxLen"], apart := false }
def FnExactPeekSaid : Prop := fnExactPeekRow.holds Try.pinned (OpenSpec.ofChange fnExactPeekSpec)

/-- ITS FALSE NEIGHBOUR: 'it returns false'. Refute it at one input. -/
def fnExactPeekWrong : ChangeSpec := { name := "fnExactPeek", fn := fun _ => fun
  | [d1, d2] => { results := [.lit (.bool false)], args := [d1, d2] }
  | _ => none }
def FnExactPeekWrongFalsely : Prop := fnExactPeekRow.holds Try.pinned (OpenSpec.ofChange fnExactPeekWrong)

/-- 'laws.FnExactReceive': WHATEVER THE INPUT: true; the input reads as it did. -/
def fnExactReceiveSpec : ChangeSpec := { name := "fnExactReceive", fn := fun _ => fun
  | [d1, d2] => { results := [.lit (.bool true)], args := [d1, d2] }
  | _ => none }
def fnExactReceiveRow : OpenClaim := { program := "ytcgkejggkenecaa", sum := "197e24f12962dc8b904400bb4b69f260941569087d08624ee5b2ad32e64b4d9e", func := "loop.example/g00098/laws.FnExactReceive", spec := "fnExactReceive", inPlace := ["internal/bytealg.IndexByteString", "internal/bytealg.IndexString"], unfollowed := true, recurses := true, named := ["internal/bytealg.MaxLen"], apart := false }
def FnExactReceiveSaid : Prop := fnExactReceiveRow.holds Try.pinned (OpenSpec.ofChange fnExactReceiveSpec)

/-- ITS FALSE NEIGHBOUR: 'it returns false'. Refute it at one input. -/
def fnExactReceiveWrong : ChangeSpec := { name := "fnExactReceive", fn := fun _ => fun
  | [d1, d2] => { results := [.lit (.bool false)], args := [d1, d2] }
  | _ => none }
def FnExactReceiveWrongFalsely : Prop := fnExactReceiveRow.holds Try.pinned (OpenSpec.ofChange fnExactReceiveWrong)

/-- 'laws.FnExactPull': WHATEVER THE INPUT: true; the input reads as it did. -/
def fnExactPullSpec : ChangeSpec := { name := "fnExactPull", fn := fun _ => fun
  | [d1, d2, d3] => { results := [.lit (.bool true)], args := [d1, d2, d3] }
  | _ => none }
def fnExactPullRow : OpenClaim := { program := "ytcgkejggkenecaa", sum := "197e24f12962dc8b904400bb4b69f260941569087d08624ee5b2ad32e64b4d9e", func := "loop.example/g00098/laws.FnExactPull", spec := "fnExactPull", inPlace := ["internal/bytealg.IndexByteString", "internal/bytealg.IndexString"], unfollowed := true, recurses := true, named := ["internal/bytealg.MaxLen"], apart := false }
def FnExactPullSaid : Prop := fnExactPullRow.holds Try.pinned (OpenSpec.ofChange fnExactPullSpec)

/-- ITS FALSE NEIGHBOUR: 'it returns false'. Refute it at one input. -/
def fnExactPullWrong : ChangeSpec := { name := "fnExactPull", fn := fun _ => fun
  | [d1, d2, d3] => { results := [.lit (.bool false)], args := [d1, d2, d3] }
  | _ => none }
def FnExactPullWrongFalsely : Prop := fnExactPullRow.holds Try.pinned (OpenSpec.ofChange fnExactPullWrong)

/-- 'laws.FnExactSend': WHATEVER THE INPUT: true; the input reads as it did. -/
def fnExactSendSpec : ChangeSpec := { name := "fnExactSend", fn := fun _ => fun
  | [d1, d2] => { results := [.lit (.bool true)], args := [d1, d2] }
  | _ => none }
def fnExactSendRow : OpenClaim := { program := "ytcgkejggkenecaa", sum := "197e24f12962dc8b904400bb4b69f260941569087d08624ee5b2ad32e64b4d9e", func := "loop.example/g00098/laws.FnExactSend", spec := "fnExactSend", inPlace := ["internal/bytealg.IndexByteString", "internal/bytealg.IndexString"], unfollowed := true, recurses := true, named := ["internal/bytealg.MaxLen"], apart := false }
def FnExactSendSaid : Prop := fnExactSendRow.holds Try.pinned (OpenSpec.ofChange fnExactSendSpec)

/-- ITS FALSE NEIGHBOUR: 'it returns false'. Refute it at one input. -/
def fnExactSendWrong : ChangeSpec := { name := "fnExactSend", fn := fun _ => fun
  | [d1, d2] => { results := [.lit (.bool false)], args := [d1, d2] }
  | _ => none }
def FnExactSendWrongFalsely : Prop := fnExactSendRow.holds Try.pinned (OpenSpec.ofChange fnExactSendWrong)

/- THE SECOND FORM. 'bulk': how many values and letters a reading holds, each counted each time it is reached (what is shared counts as often as it is met; a slice's spare places count too). A statement '..UptoSaid' is the law's where the arguments, and the package variables that the reading takes, are together of bulk at most 1048576: NARROWER than '..Said'. Prove '..Said' where nothing that the law and all that it calls make is longer than what came in: it says more and counts as full. Else prove '..UptoSaid'. A law counts once. -/
mutual
def uptoBulk {H : Type} : DataW H → Nat
  | .lit (.string bytes) => bytes.length + 1
  | .lit _ => 1
  | .nil => 1
  | .ptr d => uptoBulk d + 1
  | .slice elems spare => uptoBulkAll elems + uptoBulkAll spare + 1
  | .agg parts => uptoBulkAll parts + 1
  | .iface _ d => uptoBulk d + 1
  | .map entries => uptoBulkEntries entries + 1
  | .held _ => 1
def uptoBulkAll {H : Type} : List (DataW H) → Nat
  | [] => 0
  | d :: r => uptoBulk d + uptoBulkAll r
def uptoBulkEntries {H : Type} : List (Lit × DataW H) → Nat
  | [] => 0
  | x :: r => uptoBulkEntry x + uptoBulkEntries r
def uptoBulkEntry {H : Type} : Lit × DataW H → Nat
  | (.string bytes, d) => bytes.length + uptoBulk d + 1
  | (_, d) => uptoBulk d + 1
 end
def uptoSmall : (H : Type) → List (DataW H) → Bool := fun _ ds => decide (uptoBulkAll ds ≤ 1048576)
def OpenSpec.upto (s : _root_.Go.ChangeSpec) : _root_.Go.OpenSpec := { _root_.Go.OpenSpec.ofChange s with cond := some uptoSmall }

/-- 'laws.FnExactRingOk', WHERE WHAT IT READS IS OF BULK AT MOST 1048576: true; the input reads as it did. -/
def fnExactRingOkUptoRow : OpenClaim := { program := "ytcgkejggkenecaa", sum := "197e24f12962dc8b904400bb4b69f260941569087d08624ee5b2ad32e64b4d9e", func := "loop.example/g00098/laws.FnExactRingOk", spec := "fnExactRingOk", unfollowed := true, recurses := true, apart := false, narrowed := true }
def FnExactRingOkUptoSaid : Prop := fnExactRingOkUptoRow.holds Try.pinned (OpenSpec.upto fnExactRingOkSpec)

/-- 'laws.FnExactLag', WHERE WHAT IT READS IS OF BULK AT MOST 1048576: true; the input reads as it did. -/
def fnExactLagUptoRow : OpenClaim := { program := "ytcgkejggkenecaa", sum := "197e24f12962dc8b904400bb4b69f260941569087d08624ee5b2ad32e64b4d9e", func := "loop.example/g00098/laws.FnExactLag", spec := "fnExactLag", unfollowed := true, recurses := true, apart := false, narrowed := true }
def FnExactLagUptoSaid : Prop := fnExactLagUptoRow.holds Try.pinned (OpenSpec.upto fnExactLagSpec)

/-- 'laws.FnExactBalance', WHERE WHAT IT READS IS OF BULK AT MOST 1048576: true; the input reads as it did. -/
def fnExactBalanceUptoRow : OpenClaim := { program := "ytcgkejggkenecaa", sum := "197e24f12962dc8b904400bb4b69f260941569087d08624ee5b2ad32e64b4d9e", func := "loop.example/g00098/laws.FnExactBalance", spec := "fnExactBalance", unfollowed := true, recurses := true, apart := false, narrowed := true }
def FnExactBalanceUptoSaid : Prop := fnExactBalanceUptoRow.holds Try.pinned (OpenSpec.upto fnExactBalanceSpec)

/-- 'laws.FnExactCloseRing', WHERE WHAT IT READS IS OF BULK AT MOST 1048576: true; the input reads as it did. -/
def fnExactCloseRingUptoRow : OpenClaim := { program := "ytcgkejggkenecaa", sum := "197e24f12962dc8b904400bb4b69f260941569087d08624ee5b2ad32e64b4d9e", func := "loop.example/g00098/laws.FnExactCloseRing", spec := "fnExactCloseRing", unfollowed := true, recurses := true, apart := false, narrowed := true }
def FnExactCloseRingUptoSaid : Prop := fnExactCloseRingUptoRow.holds Try.pinned (OpenSpec.upto fnExactCloseRingSpec)

/-- 'laws.FnExactSubscribe', WHERE WHAT IT READS IS OF BULK AT MOST 1048576: true; the input reads as it did. -/
def fnExactSubscribeUptoRow : OpenClaim := { program := "ytcgkejggkenecaa", sum := "197e24f12962dc8b904400bb4b69f260941569087d08624ee5b2ad32e64b4d9e", func := "loop.example/g00098/laws.FnExactSubscribe", spec := "fnExactSubscribe", unfollowed := true, recurses := true, apart := false, narrowed := true }
def FnExactSubscribeUptoSaid : Prop := fnExactSubscribeUptoRow.holds Try.pinned (OpenSpec.upto fnExactSubscribeSpec)

/-- 'laws.FnExactUnwait', WHERE WHAT IT READS IS OF BULK AT MOST 1048576: true; the input reads as it did. -/
def fnExactUnwaitUptoRow : OpenClaim := { program := "ytcgkejggkenecaa", sum := "197e24f12962dc8b904400bb4b69f260941569087d08624ee5b2ad32e64b4d9e", func := "loop.example/g00098/laws.FnExactUnwait", spec := "fnExactUnwait", unfollowed := true, recurses := true, apart := false, narrowed := true }
def FnExactUnwaitUptoSaid : Prop := fnExactUnwaitUptoRow.holds Try.pinned (OpenSpec.upto fnExactUnwaitSpec)

/-- 'laws.FnExactSkipTo', WHERE WHAT IT READS IS OF BULK AT MOST 1048576: true; the input reads as it did. -/
def fnExactSkipToUptoRow : OpenClaim := { program := "ytcgkejggkenecaa", sum := "197e24f12962dc8b904400bb4b69f260941569087d08624ee5b2ad32e64b4d9e", func := "loop.example/g00098/laws.FnExactSkipTo", spec := "fnExactSkipTo", unfollowed := true, recurses := true, apart := false, narrowed := true }
def FnExactSkipToUptoSaid : Prop := fnExactSkipToUptoRow.holds Try.pinned (OpenSpec.upto fnExactSkipToSpec)

/-- 'laws.FnExactUnsubscribe', WHERE WHAT IT READS IS OF BULK AT MOST 1048576: true; the input reads as it did. -/
def fnExactUnsubscribeUptoRow : OpenClaim := { program := "ytcgkejggkenecaa", sum := "197e24f12962dc8b904400bb4b69f260941569087d08624ee5b2ad32e64b4d9e", func := "loop.example/g00098/laws.FnExactUnsubscribe", spec := "fnExactUnsubscribe", unfollowed := true, recurses := true, apart := false, narrowed := true }
def FnExactUnsubscribeUptoSaid : Prop := fnExactUnsubscribeUptoRow.holds Try.pinned (OpenSpec.upto fnExactUnsubscribeSpec)

/-- 'laws.FnExactPeek', WHERE WHAT IT READS IS OF BULK AT MOST 1048576: true; the input reads as it did. -/
def fnExactPeekUptoRow : OpenClaim := { program := "ytcgkejggkenecaa", sum := "197e24f12962dc8b904400bb4b69f260941569087d08624ee5b2ad32e64b4d9e", func := "loop.example/g00098/laws.FnExactPeek", spec := "fnExactPeek", inPlace := ["internal/bytealg.IndexByteString", "internal/bytealg.IndexString"], unfollowed := true, recurses := true, named := ["internal/bytealg.MaxLen"], apart := false, narrowed := true }
def FnExactPeekUptoSaid : Prop := fnExactPeekUptoRow.holds Try.pinned (OpenSpec.upto fnExactPeekSpec)

/-- 'laws.FnExactReceive', WHERE WHAT IT READS IS OF BULK AT MOST 1048576: true; the input reads as it did. -/
def fnExactReceiveUptoRow : OpenClaim := { program := "ytcgkejggkenecaa", sum := "197e24f12962dc8b904400bb4b69f260941569087d08624ee5b2ad32e64b4d9e", func := "loop.example/g00098/laws.FnExactReceive", spec := "fnExactReceive", inPlace := ["internal/bytealg.IndexByteString", "internal/bytealg.IndexString"], unfollowed := true, recurses := true, named := ["internal/bytealg.MaxLen"], apart := false, narrowed := true }
def FnExactReceiveUptoSaid : Prop := fnExactReceiveUptoRow.holds Try.pinned (OpenSpec.upto fnExactReceiveSpec)

/-- 'laws.FnExactPull', WHERE WHAT IT READS IS OF BULK AT MOST 1048576: true; the input reads as it did. -/
def fnExactPullUptoRow : OpenClaim := { program := "ytcgkejggkenecaa", sum := "197e24f12962dc8b904400bb4b69f260941569087d08624ee5b2ad32e64b4d9e", func := "loop.example/g00098/laws.FnExactPull", spec := "fnExactPull", inPlace := ["internal/bytealg.IndexByteString", "internal/bytealg.IndexString"], unfollowed := true, recurses := true, named := ["internal/bytealg.MaxLen"], apart := false, narrowed := true }
def FnExactPullUptoSaid : Prop := fnExactPullUptoRow.holds Try.pinned (OpenSpec.upto fnExactPullSpec)

/-- 'laws.FnExactSend', WHERE WHAT IT READS IS OF BULK AT MOST 1048576: true; the input reads as it did. -/
def fnExactSendUptoRow : OpenClaim := { program := "ytcgkejggkenecaa", sum := "197e24f12962dc8b904400bb4b69f260941569087d08624ee5b2ad32e64b4d9e", func := "loop.example/g00098/laws.FnExactSend", spec := "fnExactSend", inPlace := ["internal/bytealg.IndexByteString", "internal/bytealg.IndexString"], unfollowed := true, recurses := true, named := ["internal/bytealg.MaxLen"], apart := false, narrowed := true }
def FnExactSendUptoSaid : Prop := fnExactSendUptoRow.holds Try.pinned (OpenSpec.upto fnExactSendSpec)

end Rows
end Go.Proofs.Ytcgkejggkenecaa
