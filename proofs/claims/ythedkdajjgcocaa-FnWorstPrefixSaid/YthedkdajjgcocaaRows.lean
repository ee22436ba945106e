/-
  No cell of these rows narrows 'for every input' (looked for: loops, veiled, ifaces, maps, wideKeys, modest, calm, conditions, laid).
  DERIVED. THE GIVEN ROWS OF THIS SEAT. 10 by the template 'for every input the law returns true; each argument reads behind the call as it read before'; 0 by the template 'total and deterministic' (their statements: YthedkdajjgcocaaTotals.lean).
  GIVEN WITH THE SEED: the statements are not yours to turn. If you find one false, say at which input.
  Laid BY PROGRAM, IN A SANDBOX (cutbox-rows.mjs): the forced cells as the released guide's own fill.sh prints them over the translation e63a314f740ed3e0… (all of the seat's roots in one cut). By AI agents, Wed Nov 11 2026. No macro, syntax, notation, axiom, sorry.
-/
import Derived.Test.YthedkdajjgcocaaChecked
import GoSem.Claim
import GoSem.ClaimJoined
import GoSem.ClaimMapViews
import Derived.JoinedTies
import Derived.KernelRfl
namespace Go.Proofs.Ythedkdajjgcocaa
/- THE CELL 'sum', in the pinned program and in every row, IS THE sha256 OF THE DUMP (.gsa) THAT YthedkdajjgcocaaProg.lean LOADS. Nothing in Lean hashes anything: it is a label: what it is worth is what the hold of that sum in a sandbox is worth. -/
noncomputable def Try.pinned : Pinned := { name := "ythedkdajjgcocaa", sum := "e63a314f740ed3e0288991f9d2e5388d68188430b6ddc415094cde91a7f898f7", checked := Try.checked }
namespace Rows
def none {H : Type} : Left H := { results := [], args := [] }

/-- 'laws.FnExactNeedOf': WHATEVER THE INPUT: true; the input reads as it did. -/
def fnExactNeedOfSpec : ChangeSpec := { name := "fnExactNeedOf", fn := fun _ => fun
  | [d1, d2] => { results := [.lit (.bool true)], args := [d1, d2] }
  | _ => none }
def fnExactNeedOfRow : OpenClaim := { program := "ythedkdajjgcocaa", sum := "e63a314f740ed3e0288991f9d2e5388d68188430b6ddc415094cde91a7f898f7", func := "loop.example/dualmodes/laws.FnExactNeedOf", spec := "fnExactNeedOf", apart := false }
def FnExactNeedOfSaid : Prop := fnExactNeedOfRow.holds Try.pinned (OpenSpec.ofChange fnExactNeedOfSpec)

/-- ITS FALSE NEIGHBOUR: 'it returns false'. Refute it at one input. -/
def fnExactNeedOfWrong : ChangeSpec := { name := "fnExactNeedOf", fn := fun _ => fun
  | [d1, d2] => { results := [.lit (.bool false)], args := [d1, d2] }
  | _ => none }
def FnExactNeedOfWrongFalsely : Prop := fnExactNeedOfRow.holds Try.pinned (OpenSpec.ofChange fnExactNeedOfWrong)

/-- 'laws.FnExactImplicit': WHATEVER THE INPUT: true; the input reads as it did. -/
def fnExactImplicitSpec : ChangeSpec := { name := "fnExactImplicit", fn := fun _ => fun
  | [d] => { results := [.lit (.bool true)], args := [d] }
  | _ => none }
def fnExactImplicitRow : OpenClaim := { program := "ythedkdajjgcocaa", sum := "e63a314f740ed3e0288991f9d2e5388d68188430b6ddc415094cde91a7f898f7", func := "loop.example/dualmodes/laws.FnExactImplicit", spec := "fnExactImplicit", apart := false }
def FnExactImplicitSaid : Prop := fnExactImplicitRow.holds Try.pinned (OpenSpec.ofChange fnExactImplicitSpec)

/-- ITS FALSE NEIGHBOUR: 'it returns false'. Refute it at one input. -/
def fnExactImplicitWrong : ChangeSpec := { name := "fnExactImplicit", fn := fun _ => fun
  | [d] => { results := [.lit (.bool false)], args := [d] }
  | _ => none }
def FnExactImplicitWrongFalsely : Prop := fnExactImplicitRow.holds Try.pinned (OpenSpec.ofChange fnExactImplicitWrong)

/-- 'laws.FnExactDueAt': WHATEVER THE INPUT: true; the input reads as it did. -/
def fnExactDueAtSpec : ChangeSpec := { name := "fnExactDueAt", fn := fun _ => fun
  | [d1, d2] => { results := [.lit (.bool true)], args := [d1, d2] }
  | _ => none }
def fnExactDueAtRow : OpenClaim := { program := "ythedkdajjgcocaa", sum := "e63a314f740ed3e0288991f9d2e5388d68188430b6ddc415094cde91a7f898f7", func := "loop.example/dualmodes/laws.FnExactDueAt", spec := "fnExactDueAt", apart := false }
def FnExactDueAtSaid : Prop := fnExactDueAtRow.holds Try.pinned (OpenSpec.ofChange fnExactDueAtSpec)

/-- ITS FALSE NEIGHBOUR: 'it returns false'. Refute it at one input. -/
def fnExactDueAtWrong : ChangeSpec := { name := "fnExactDueAt", fn := fun _ => fun
  | [d1, d2] => { results := [.lit (.bool false)], args := [d1, d2] }
  | _ => none }
def FnExactDueAtWrongFalsely : Prop := fnExactDueAtRow.holds Try.pinned (OpenSpec.ofChange fnExactDueAtWrong)

/-- 'laws.FnExactOrderValid': WHATEVER THE INPUT: true; the input reads as it did. -/
def fnExactOrderValidSpec : ChangeSpec := { name := "fnExactOrderValid", fn := fun _ => fun
  | [d1, d2] => { results := [.lit (.bool true)], args := [d1, d2] }
  | _ => none }
def fnExactOrderValidRow : OpenClaim := { program := "ythedkdajjgcocaa", sum := "e63a314f740ed3e0288991f9d2e5388d68188430b6ddc415094cde91a7f898f7", func := "loop.example/dualmodes/laws.FnExactOrderValid", spec := "fnExactOrderValid", apart := false }
def FnExactOrderValidSaid : Prop := fnExactOrderValidRow.holds Try.pinned (OpenSpec.ofChange fnExactOrderValidSpec)

/-- ITS FALSE NEIGHBOUR: 'it returns false'. Refute it at one input. -/
def fnExactOrderValidWrong : ChangeSpec := { name := "fnExactOrderValid", fn := fun _ => fun
  | [d1, d2] => { results := [.lit (.bool false)], args := [d1, d2] }
  | _ => none }
def FnExactOrderValidWrongFalsely : Prop := fnExactOrderValidRow.holds Try.pinned (OpenSpec.ofChange fnExactOrderValidWrong)

/-- 'laws.FnOrderTwice': WHATEVER THE INPUT: true; the input reads as it did. -/
def fnOrderTwiceSpec : ChangeSpec := { name := "fnOrderTwice", fn := fun _ => fun
  | [d] => { results := [.lit (.bool true)], args := [d] }
  | _ => none }
def fnOrderTwiceRow : OpenClaim := { program := "ythedkdajjgcocaa", sum := "e63a314f740ed3e0288991f9d2e5388d68188430b6ddc415094cde91a7f898f7", func := "loop.example/dualmodes/laws.FnOrderTwice", spec := "fnOrderTwice", apart := false }
def FnOrderTwiceSaid : Prop := fnOrderTwiceRow.holds Try.pinned (OpenSpec.ofChange fnOrderTwiceSpec)

/-- ITS FALSE NEIGHBOUR: 'it returns false'. Refute it at one input. -/
def fnOrderTwiceWrong : ChangeSpec := { name := "fnOrderTwice", fn := fun _ => fun
  | [d] => { results := [.lit (.bool false)], args := [d] }
  | _ => none }
def FnOrderTwiceWrongFalsely : Prop := fnOrderTwiceRow.holds Try.pinned (OpenSpec.ofChange fnOrderTwiceWrong)

/-- 'laws.FnWorstPrefix': WHATEVER THE INPUT: true; the input reads as it did. -/
def fnWorstPrefixSpec : ChangeSpec := { name := "fnWorstPrefix", fn := fun _ => fun
  | [d] => { results := [.lit (.bool true)], args := [d] }
  | _ => none }
def fnWorstPrefixRow : OpenClaim := { program := "ythedkdajjgcocaa", sum := "e63a314f740ed3e0288991f9d2e5388d68188430b6ddc415094cde91a7f898f7", func := "loop.example/dualmodes/laws.FnWorstPrefix", spec := "fnWorstPrefix", apart := false }
def FnWorstPrefixSaid : Prop := fnWorstPrefixRow.holds Try.pinned (OpenSpec.ofChange fnWorstPrefixSpec)

/-- ITS FALSE NEIGHBOUR: 'it returns false'. Refute it at one input. -/
def fnWorstPrefixWrong : ChangeSpec := { name := "fnWorstPrefix", fn := fun _ => fun
  | [d] => { results := [.lit (.bool false)], args := [d] }
  | _ => none }
def FnWorstPrefixWrongFalsely : Prop := fnWorstPrefixRow.holds Try.pinned (OpenSpec.ofChange fnWorstPrefixWrong)

/-- 'laws.FnOrderBack': WHATEVER THE INPUT: true; the input reads as it did. -/
def fnOrderBackSpec : ChangeSpec := { name := "fnOrderBack", fn := fun _ => fun
  | [d] => { results := [.lit (.bool true)], args := [d] }
  | _ => none }
def fnOrderBackRow : OpenClaim := { program := "ythedkdajjgcocaa", sum := "e63a314f740ed3e0288991f9d2e5388d68188430b6ddc415094cde91a7f898f7", func := "loop.example/dualmodes/laws.FnOrderBack", spec := "fnOrderBack", apart := false }
def FnOrderBackSaid : Prop := fnOrderBackRow.holds Try.pinned (OpenSpec.ofChange fnOrderBackSpec)

/-- ITS FALSE NEIGHBOUR: 'it returns false'. Refute it at one input. -/
def fnOrderBackWrong : ChangeSpec := { name := "fnOrderBack", fn := fun _ => fun
  | [d] => { results := [.lit (.bool false)], args := [d] }
  | _ => none }
def FnOrderBackWrongFalsely : Prop := fnOrderBackRow.holds Try.pinned (OpenSpec.ofChange fnOrderBackWrong)

/-- 'laws.FnOrderSelf': WHATEVER THE INPUT: true; the input reads as it did. -/
def fnOrderSelfSpec : ChangeSpec := { name := "fnOrderSelf", fn := fun _ => fun
  | [d] => { results := [.lit (.bool true)], args := [d] }
  | _ => none }
def fnOrderSelfRow : OpenClaim := { program := "ythedkdajjgcocaa", sum := "e63a314f740ed3e0288991f9d2e5388d68188430b6ddc415094cde91a7f898f7", func := "loop.example/dualmodes/laws.FnOrderSelf", spec := "fnOrderSelf", apart := false }
def FnOrderSelfSaid : Prop := fnOrderSelfRow.holds Try.pinned (OpenSpec.ofChange fnOrderSelfSpec)

/-- ITS FALSE NEIGHBOUR: 'it returns false'. Refute it at one input. -/
def fnOrderSelfWrong : ChangeSpec := { name := "fnOrderSelf", fn := fun _ => fun
  | [d] => { results := [.lit (.bool false)], args := [d] }
  | _ => none }
def FnOrderSelfWrongFalsely : Prop := fnOrderSelfRow.holds Try.pinned (OpenSpec.ofChange fnOrderSelfWrong)

/-- 'laws.FnExactPutOrder': WHATEVER THE INPUT: true; the input reads as it did. -/
def fnExactPutOrderSpec : ChangeSpec := { name := "fnExactPutOrder", fn := fun _ => fun
  | [d1, d2] => { results := [.lit (.bool true)], args := [d1, d2] }
  | _ => none }
def fnExactPutOrderRow : OpenClaim := { program := "ythedkdajjgcocaa", sum := "e63a314f740ed3e0288991f9d2e5388d68188430b6ddc415094cde91a7f898f7", func := "loop.example/dualmodes/laws.FnExactPutOrder", spec := "fnExactPutOrder", apart := false }
def FnExactPutOrderSaid : Prop := fnExactPutOrderRow.holds Try.pinned (OpenSpec.ofChange fnExactPutOrderSpec)

/-- ITS FALSE NEIGHBOUR: 'it returns false'. Refute it at one input. -/
def fnExactPutOrderWrong : ChangeSpec := { name := "fnExactPutOrder", fn := fun _ => fun
  | [d1, d2] => { results := [.lit (.bool false)], args := [d1, d2] }
  | _ => none }
def FnExactPutOrderWrongFalsely : Prop := fnExactPutOrderRow.holds Try.pinned (OpenSpec.ofChange fnExactPutOrderWrong)

/-- 'laws.FnPutOrder': WHATEVER THE INPUT: true; the input reads as it did. -/
def fnPutOrderSpec : ChangeSpec := { name := "fnPutOrder", fn := fun _ => fun
  | [d] => { results := [.lit (.bool true)], args := [d] }
  | _ => none }
def fnPutOrderRow : OpenClaim := { program := "ythedkdajjgcocaa", sum := "e63a314f740ed3e0288991f9d2e5388d68188430b6ddc415094cde91a7f898f7", func := "loop.example/dualmodes/laws.FnPutOrder", spec := "fnPutOrder", apart := false }
def FnPutOrderSaid : Prop := fnPutOrderRow.holds Try.pinned (OpenSpec.ofChange fnPutOrderSpec)

/-- ITS FALSE NEIGHBOUR: 'it returns false'. Refute it at one input. -/
def fnPutOrderWrong : ChangeSpec := { name := "fnPutOrder", fn := fun _ => fun
  | [d] => { results := [.lit (.bool false)], args := [d] }
  | _ => none }
def FnPutOrderWrongFalsely : Prop := fnPutOrderRow.holds Try.pinned (OpenSpec.ofChange fnPutOrderWrong)

/- THE SECOND FORM. 'bulk': how many values and letters a reading holds, each counted each time it is reached (what is shared counts as often as it is met; a slice's spare places count too). A statement '..UptoSaid' is the law's where the arguments, and the package variables that the reading takes, are together of bulk at most 1048576: NARROWER than '..Said'. Prove '..Said' where nothing that the law and all that it calls make is longer than what came in: it says more and counts as full. Else prove '..UptoSaid'. A law counts once. -/
mutual
def uptoBulk {H : Type} : DataW H → Nat
  | .lit (.string bytes) => bytes.length + 1
  | .lit _ => 1
  | .nil => 1
  | .ptr d => uptoBulk d + 1
  | .slice elems spare => uptoBulkAll elems + uptoBulkAll spare + 1
  | .agg parts => uptoBulkAll parts + 1
  | .iface _ d => uptoBulk d + 1
  | .map entries => uptoBulkEntries entries + 1
  | .held _ => 1
def uptoBulkAll {H : Type} : List (DataW H) → Nat
  | [] => 0
  | d :: r => uptoBulk d + uptoBulkAll r
def uptoBulkEntries {H : Type} : List (Lit × DataW H) → Nat
  | [] => 0
  | x :: r => uptoBulkEntry x + uptoBulkEntries r
def uptoBulkEntry {H : Type} : Lit × DataW H → Nat
  | (.string bytes, d) => bytes.length + uptoBulk d + 1
  | (_, d) => uptoBulk d + 1
 end
def uptoSmall : (H : Type) → List (DataW H) → Bool := fun _ ds => decide (uptoBulkAll ds ≤ 1048576)
def OpenSpec.upto (s : _root_.Go.ChangeSpec) : _root_.Go.OpenSpec := { _root_.Go.OpenSpec.ofChange s with cond := some uptoSmall }

/-- 'laws.FnExactNeedOf', WHERE WHAT IT READS IS OF BULK AT MOST 1048576: true; the input reads as it did. -/
def fnExactNeedOfUptoRow : OpenClaim := { program := "ythedkdajjgcocaa", sum := "e63a314f740ed3e0288991f9d2e5388d68188430b6ddc415094cde91a7f898f7", func := "loop.example/dualmodes/laws.FnExactNeedOf", spec := "fnExactNeedOf", apart := false, narrowed := true }
def FnExactNeedOfUptoSaid : Prop := fnExactNeedOfUptoRow.holds Try.pinned (OpenSpec.upto fnExactNeedOfSpec)

/-- 'laws.FnExactImplicit', WHERE WHAT IT READS IS OF BULK AT MOST 1048576: true; the input reads as it did. -/
def fnExactImplicitUptoRow : OpenClaim := { program := "ythedkdajjgcocaa", sum := "e63a314f740ed3e0288991f9d2e5388d68188430b6ddc415094cde91a7f898f7", func := "loop.example/dualmodes/laws.FnExactImplicit", spec := "fnExactImplicit", apart := false, narrowed := true }
def FnExactImplicitUptoSaid : Prop := fnExactImplicitUptoRow.holds Try.pinned (OpenSpec.upto fnExactImplicitSpec)

/-- 'laws.FnExactDueAt', WHERE WHAT IT READS IS OF BULK AT MOST 1048576: true; the input reads as it did. -/
def fnExactDueAtUptoRow : OpenClaim := { program := "ythedkdajjgcocaa", sum := "e63a314f740ed3e0288991f9d2e5388d68188430b6ddc415094cde91a7f898f7", func := "loop.example/dualmodes/laws.FnExactDueAt", spec := "fnExactDueAt", apart := false, narrowed := true }
def FnExactDueAtUptoSaid : Prop := fnExactDueAtUptoRow.holds Try.pinned (OpenSpec.upto fnExactDueAtSpec)

/-- 'laws.FnExactOrderValid', WHERE WHAT IT READS IS OF BULK AT MOST 1048576: true; the input reads as it did. -/
def fnExactOrderValidUptoRow : OpenClaim := { program := "ythedkdajjgcocaa", sum := "e63a314f740ed3e0288991f9d2e5388d68188430b6ddc415094cde91a7f898f7", func := "loop.example/dualmodes/laws.FnExactOrderValid", spec := "fnExactOrderValid", apart := false, narrowed := true }
def FnExactOrderValidUptoSaid : Prop := fnExactOrderValidUptoRow.holds Try.pinned (OpenSpec.upto fnExactOrderValidSpec)

/-- 'laws.FnOrderTwice', WHERE WHAT IT READS IS OF BULK AT MOST 1048576: true; the input reads as it did. -/
def fnOrderTwiceUptoRow : OpenClaim := { program := "ythedkdajjgcocaa", sum := "e63a314f740ed3e0288991f9d2e5388d68188430b6ddc415094cde91a7f898f7", func := "loop.example/dualmodes/laws.FnOrderTwice", spec := "fnOrderTwice", apart := false, narrowed := true }
def FnOrderTwiceUptoSaid : Prop := fnOrderTwiceUptoRow.holds Try.pinned (OpenSpec.upto fnOrderTwiceSpec)

/-- 'laws.FnWorstPrefix', WHERE WHAT IT READS IS OF BULK AT MOST 1048576: true; the input reads as it did. -/
def fnWorstPrefixUptoRow : OpenClaim := { program := "ythedkdajjgcocaa", sum := "e63a314f740ed3e0288991f9d2e5388d68188430b6ddc415094cde91a7f898f7", func := "loop.example/dualmodes/laws.FnWorstPrefix", spec := "fnWorstPrefix", apart := false, narrowed := true }
def FnWorstPrefixUptoSaid : Prop := fnWorstPrefixUptoRow.holds Try.pinned (OpenSpec.upto fnWorstPrefixSpec)

/-- 'laws.FnOrderBack', WHERE WHAT IT READS IS OF BULK AT MOST 1048576: true; the input reads as it did. -/
def fnOrderBackUptoRow : OpenClaim := { program := "ythedkdajjgcocaa", sum := "e63a314f740ed3e0288991f9d2e5388d68188430b6ddc415094cde91a7f898f7", func := "loop.example/dualmodes/laws.FnOrderBack", spec := "fnOrderBack", apart := false, narrowed := true }
def FnOrderBackUptoSaid : Prop := fnOrderBackUptoRow.holds Try.pinned (OpenSpec.upto fnOrderBackSpec)

/-- 'laws.FnOrderSelf', WHERE WHAT IT READS IS OF BULK AT MOST 1048576: true; the input reads as it did. -/
def fnOrderSelfUptoRow : OpenClaim := { program := "ythedkdajjgcocaa", sum := "e63a314f740ed3e0288991f9d2e5388d68188430b6ddc415094cde91a7f898f7", func := "loop.example/dualmodes/laws.FnOrderSelf", spec := "fnOrderSelf", apart := false, narrowed := true }
def FnOrderSelfUptoSaid : Prop := fnOrderSelfUptoRow.holds Try.pinned (OpenSpec.upto fnOrderSelfSpec)

/-- 'laws.FnExactPutOrder', WHERE WHAT IT READS IS OF BULK AT MOST 1048576: true; the input reads as it did. -/
def fnExactPutOrderUptoRow : OpenClaim := { program := "ythedkdajjgcocaa", sum := "e63a314f740ed3e0288991f9d2e5388d68188430b6ddc415094cde91a7f898f7", func := "loop.example/dualmodes/laws.FnExactPutOrder", spec := "fnExactPutOrder", apart := false, narrowed := true }
def FnExactPutOrderUptoSaid : Prop := fnExactPutOrderUptoRow.holds Try.pinned (OpenSpec.upto fnExactPutOrderSpec)

/-- 'laws.FnPutOrder', WHERE WHAT IT READS IS OF BULK AT MOST 1048576: true; the input reads as it did. -/
def fnPutOrderUptoRow : OpenClaim := { program := "ythedkdajjgcocaa", sum := "e63a314f740ed3e0288991f9d2e5388d68188430b6ddc415094cde91a7f898f7", func := "loop.example/dualmodes/laws.FnPutOrder", spec := "fnPutOrder", apart := false, narrowed := true }
def FnPutOrderUptoSaid : Prop := fnPutOrderUptoRow.holds Try.pinned (OpenSpec.upto fnPutOrderSpec)

end Rows
end Go.Proofs.Ythedkdajjgcocaa
