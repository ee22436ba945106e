/-
  No cell of these rows narrows 'for every input' (looked for: loops, veiled, ifaces, maps, wideKeys, modest, calm, conditions, laid).
  DERIVED. THE GIVEN ROWS OF THIS SEAT. 12 by the template 'for every input the law returns true; each argument reads behind the call as it read before'; 0 by the template 'total and deterministic' (their statements: YtbfdpegjflhboaaTotals.lean).
  GIVEN WITH THE SEED: the statements are not yours to turn. If you find one false, say at which input.
  Laid BY PROGRAM, IN A SANDBOX (cutbox-rows.mjs): the forced cells as the released guide's own fill.sh prints them over the translation 988dc86ce410d46d… (all of the seat's roots in one cut). By AI agents, Wed Nov 11 2026. No macro, syntax, notation, axiom, sorry.
-/
import Derived.Test.YtbfdpegjflhboaaChecked
import GoSem.Claim
import GoSem.ClaimJoined
import GoSem.ClaimMapViews
import Derived.JoinedTies
import Derived.KernelRfl
namespace Go.Proofs.Ytbfdpegjflhboaa
/- THE CELL 'sum', in the pinned program and in every row, IS THE sha256 OF THE DUMP (.gsa) THAT YtbfdpegjflhboaaProg.lean LOADS. Nothing in Lean hashes anything: it is a label: what it is worth is what the hold of that sum in a sandbox is worth. -/
noncomputable def Try.pinned : Pinned := { name := "ytbfdpegjflhboaa", sum := "988dc86ce410d46d90641f04f22b0f4cc2955fca41365ba1f6ee3ac5f5ea2bd5", checked := Try.checked }
namespace Rows
def none {H : Type} : Left H := { results := [], args := [] }

/-- 'laws.FnResponseFirst': WHATEVER THE INPUT: true; the input reads as it did. -/
def fnResponseFirstSpec : ChangeSpec := { name := "fnResponseFirst", fn := fun _ => fun
  | [d] => { results := [.lit (.bool true)], args := [d] }
  | _ => none }
def fnResponseFirstRow : OpenClaim := { program := "ytbfdpegjflhboaa", sum := "988dc86ce410d46d90641f04f22b0f4cc2955fca41365ba1f6ee3ac5f5ea2bd5", func := "loop.example/dualmodes/laws.FnResponseFirst", spec := "fnResponseFirst", unfollowed := true, recurses := true, apart := false }
def FnResponseFirstSaid : Prop := fnResponseFirstRow.holds Try.pinned (OpenSpec.ofChange fnResponseFirstSpec)

/-- ITS FALSE NEIGHBOUR: 'it returns false'. Refute it at one input. -/
def fnResponseFirstWrong : ChangeSpec := { name := "fnResponseFirst", fn := fun _ => fun
  | [d] => { results := [.lit (.bool false)], args := [d] }
  | _ => none }
def FnResponseFirstWrongFalsely : Prop := fnResponseFirstRow.holds Try.pinned (OpenSpec.ofChange fnResponseFirstWrong)

/-- 'laws.FnExactFirstBad': WHATEVER THE INPUT: true; the input reads as it did. -/
def fnExactFirstBadSpec : ChangeSpec := { name := "fnExactFirstBad", fn := fun _ => fun
  | [d] => { results := [.lit (.bool true)], args := [d] }
  | _ => none }
def fnExactFirstBadRow : OpenClaim := { program := "ytbfdpegjflhboaa", sum := "988dc86ce410d46d90641f04f22b0f4cc2955fca41365ba1f6ee3ac5f5ea2bd5", func := "loop.example/dualmodes/laws.FnExactFirstBad", spec := "fnExactFirstBad", unfollowed := true, recurses := true, apart := false }
def FnExactFirstBadSaid : Prop := fnExactFirstBadRow.holds Try.pinned (OpenSpec.ofChange fnExactFirstBadSpec)

/-- ITS FALSE NEIGHBOUR: 'it returns false'. Refute it at one input. -/
def fnExactFirstBadWrong : ChangeSpec := { name := "fnExactFirstBad", fn := fun _ => fun
  | [d] => { results := [.lit (.bool false)], args := [d] }
  | _ => none }
def FnExactFirstBadWrongFalsely : Prop := fnExactFirstBadRow.holds Try.pinned (OpenSpec.ofChange fnExactFirstBadWrong)

/-- 'laws.FnExactHoldsBoth': WHATEVER THE INPUT: true; the input reads as it did. -/
def fnExactHoldsBothSpec : ChangeSpec := { name := "fnExactHoldsBoth", fn := fun _ => fun
  | [d] => { results := [.lit (.bool true)], args := [d] }
  | _ => none }
def fnExactHoldsBothRow : OpenClaim := { program := "ytbfdpegjflhboaa", sum := "988dc86ce410d46d90641f04f22b0f4cc2955fca41365ba1f6ee3ac5f5ea2bd5", func := "loop.example/dualmodes/laws.FnExactHoldsBoth", spec := "fnExactHoldsBoth", unfollowed := true, recurses := true, apart := false }
def FnExactHoldsBothSaid : Prop := fnExactHoldsBothRow.holds Try.pinned (OpenSpec.ofChange fnExactHoldsBothSpec)

/-- ITS FALSE NEIGHBOUR: 'it returns false'. Refute it at one input. -/
def fnExactHoldsBothWrong : ChangeSpec := { name := "fnExactHoldsBoth", fn := fun _ => fun
  | [d] => { results := [.lit (.bool false)], args := [d] }
  | _ => none }
def FnExactHoldsBothWrongFalsely : Prop := fnExactHoldsBothRow.holds Try.pinned (OpenSpec.ofChange fnExactHoldsBothWrong)

/-- 'laws.FnBusyMore': WHATEVER THE INPUT: true; the input reads as it did. -/
def fnBusyMoreSpec : ChangeSpec := { name := "fnBusyMore", fn := fun _ => fun
  | [d] => { results := [.lit (.bool true)], args := [d] }
  | _ => none }
def fnBusyMoreRow : OpenClaim := { program := "ytbfdpegjflhboaa", sum := "988dc86ce410d46d90641f04f22b0f4cc2955fca41365ba1f6ee3ac5f5ea2bd5", func := "loop.example/dualmodes/laws.FnBusyMore", spec := "fnBusyMore", unfollowed := true, recurses := true, apart := false }
def FnBusyMoreSaid : Prop := fnBusyMoreRow.holds Try.pinned (OpenSpec.ofChange fnBusyMoreSpec)

/-- ITS FALSE NEIGHBOUR: 'it returns false'. Refute it at one input. -/
def fnBusyMoreWrong : ChangeSpec := { name := "fnBusyMore", fn := fun _ => fun
  | [d] => { results := [.lit (.bool false)], args := [d] }
  | _ => none }
def FnBusyMoreWrongFalsely : Prop := fnBusyMoreRow.holds Try.pinned (OpenSpec.ofChange fnBusyMoreWrong)

/-- 'laws.FnHighCritical': WHATEVER THE INPUT: true; the input reads as it did. -/
def fnHighCriticalSpec : ChangeSpec := { name := "fnHighCritical", fn := fun _ => fun
  | [d] => { results := [.lit (.bool true)], args := [d] }
  | _ => none }
def fnHighCriticalRow : OpenClaim := { program := "ytbfdpegjflhboaa", sum := "988dc86ce410d46d90641f04f22b0f4cc2955fca41365ba1f6ee3ac5f5ea2bd5", func := "loop.example/dualmodes/laws.FnHighCritical", spec := "fnHighCritical", unfollowed := true, recurses := true, apart := false }
def FnHighCriticalSaid : Prop := fnHighCriticalRow.holds Try.pinned (OpenSpec.ofChange fnHighCriticalSpec)

/-- ITS FALSE NEIGHBOUR: 'it returns false'. Refute it at one input. -/
def fnHighCriticalWrong : ChangeSpec := { name := "fnHighCritical", fn := fun _ => fun
  | [d] => { results := [.lit (.bool false)], args := [d] }
  | _ => none }
def FnHighCriticalWrongFalsely : Prop := fnHighCriticalRow.holds Try.pinned (OpenSpec.ofChange fnHighCriticalWrong)

/-- 'laws.FnSwitchFixed': WHATEVER THE INPUT: true; the input reads as it did. -/
def fnSwitchFixedSpec : ChangeSpec := { name := "fnSwitchFixed", fn := fun _ => fun
  | [d] => { results := [.lit (.bool true)], args := [d] }
  | _ => none }
def fnSwitchFixedRow : OpenClaim := { program := "ytbfdpegjflhboaa", sum := "988dc86ce410d46d90641f04f22b0f4cc2955fca41365ba1f6ee3ac5f5ea2bd5", func := "loop.example/dualmodes/laws.FnSwitchFixed", spec := "fnSwitchFixed", unfollowed := true, recurses := true, apart := false }
def FnSwitchFixedSaid : Prop := fnSwitchFixedRow.holds Try.pinned (OpenSpec.ofChange fnSwitchFixedSpec)

/-- ITS FALSE NEIGHBOUR: 'it returns false'. Refute it at one input. -/
def fnSwitchFixedWrong : ChangeSpec := { name := "fnSwitchFixed", fn := fun _ => fun
  | [d] => { results := [.lit (.bool false)], args := [d] }
  | _ => none }
def FnSwitchFixedWrongFalsely : Prop := fnSwitchFixedRow.holds Try.pinned (OpenSpec.ofChange fnSwitchFixedWrong)

/-- 'laws.FnResponseHigh': WHATEVER THE INPUT: true; the input reads as it did. -/
def fnResponseHighSpec : ChangeSpec := { name := "fnResponseHigh", fn := fun _ => fun
  | [d] => { results := [.lit (.bool true)], args := [d] }
  | _ => none }
def fnResponseHighRow : OpenClaim := { program := "ytbfdpegjflhboaa", sum := "988dc86ce410d46d90641f04f22b0f4cc2955fca41365ba1f6ee3ac5f5ea2bd5", func := "loop.example/dualmodes/laws.FnResponseHigh", spec := "fnResponseHigh", unfollowed := true, recurses := true, apart := false }
def FnResponseHighSaid : Prop := fnResponseHighRow.holds Try.pinned (OpenSpec.ofChange fnResponseHighSpec)

/-- ITS FALSE NEIGHBOUR: 'it returns false'. Refute it at one input. -/
def fnResponseHighWrong : ChangeSpec := { name := "fnResponseHigh", fn := fun _ => fun
  | [d] => { results := [.lit (.bool false)], args := [d] }
  | _ => none }
def FnResponseHighWrongFalsely : Prop := fnResponseHighRow.holds Try.pinned (OpenSpec.ofChange fnResponseHighWrong)

/-- 'laws.FnBusyLow': WHATEVER THE INPUT: true; the input reads as it did. -/
def fnBusyLowSpec : ChangeSpec := { name := "fnBusyLow", fn := fun _ => fun
  | [d] => { results := [.lit (.bool true)], args := [d] }
  | _ => none }
def fnBusyLowRow : OpenClaim := { program := "ytbfdpegjflhboaa", sum := "988dc86ce410d46d90641f04f22b0f4cc2955fca41365ba1f6ee3ac5f5ea2bd5", func := "loop.example/dualmodes/laws.FnBusyLow", spec := "fnBusyLow", unfollowed := true, recurses := true, apart := false }
def FnBusyLowSaid : Prop := fnBusyLowRow.holds Try.pinned (OpenSpec.ofChange fnBusyLowSpec)

/-- ITS FALSE NEIGHBOUR: 'it returns false'. Refute it at one input. -/
def fnBusyLowWrong : ChangeSpec := { name := "fnBusyLow", fn := fun _ => fun
  | [d] => { results := [.lit (.bool false)], args := [d] }
  | _ => none }
def FnBusyLowWrongFalsely : Prop := fnBusyLowRow.holds Try.pinned (OpenSpec.ofChange fnBusyLowWrong)

/-- 'laws.FnResponseSwitch': WHATEVER THE INPUT: true; the input reads as it did. -/
def fnResponseSwitchSpec : ChangeSpec := { name := "fnResponseSwitch", fn := fun _ => fun
  | [d] => { results := [.lit (.bool true)], args := [d] }
  | _ => none }
def fnResponseSwitchRow : OpenClaim := { program := "ytbfdpegjflhboaa", sum := "988dc86ce410d46d90641f04f22b0f4cc2955fca41365ba1f6ee3ac5f5ea2bd5", func := "loop.example/dualmodes/laws.FnResponseSwitch", spec := "fnResponseSwitch", unfollowed := true, recurses := true, apart := false }
def FnResponseSwitchSaid : Prop := fnResponseSwitchRow.holds Try.pinned (OpenSpec.ofChange fnResponseSwitchSpec)

/-- ITS FALSE NEIGHBOUR: 'it returns false'. Refute it at one input. -/
def fnResponseSwitchWrong : ChangeSpec := { name := "fnResponseSwitch", fn := fun _ => fun
  | [d] => { results := [.lit (.bool false)], args := [d] }
  | _ => none }
def FnResponseSwitchWrongFalsely : Prop := fnResponseSwitchRow.holds Try.pinned (OpenSpec.ofChange fnResponseSwitchWrong)

/-- 'laws.FnBadOne': WHATEVER THE INPUT: true; the input reads as it did. -/
def fnBadOneSpec : ChangeSpec := { name := "fnBadOne", fn := fun _ => fun
  | [d] => { results := [.lit (.bool true)], args := [d] }
  | _ => none }
def fnBadOneRow : OpenClaim := { program := "ytbfdpegjflhboaa", sum := "988dc86ce410d46d90641f04f22b0f4cc2955fca41365ba1f6ee3ac5f5ea2bd5", func := "loop.example/dualmodes/laws.FnBadOne", spec := "fnBadOne", unfollowed := true, recurses := true, apart := false }
def FnBadOneSaid : Prop := fnBadOneRow.holds Try.pinned (OpenSpec.ofChange fnBadOneSpec)

/-- ITS FALSE NEIGHBOUR: 'it returns false'. Refute it at one input. -/
def fnBadOneWrong : ChangeSpec := { name := "fnBadOne", fn := fun _ => fun
  | [d] => { results := [.lit (.bool false)], args := [d] }
  | _ => none }
def FnBadOneWrongFalsely : Prop := fnBadOneRow.holds Try.pinned (OpenSpec.ofChange fnBadOneWrong)

/-- 'laws.FnFirstBad': WHATEVER THE INPUT: true; the input reads as it did. -/
def fnFirstBadSpec : ChangeSpec := { name := "fnFirstBad", fn := fun _ => fun
  | [d] => { results := [.lit (.bool true)], args := [d] }
  | _ => none }
def fnFirstBadRow : OpenClaim := { program := "ytbfdpegjflhboaa", sum := "988dc86ce410d46d90641f04f22b0f4cc2955fca41365ba1f6ee3ac5f5ea2bd5", func := "loop.example/dualmodes/laws.FnFirstBad", spec := "fnFirstBad", unfollowed := true, recurses := true, apart := false }
def FnFirstBadSaid : Prop := fnFirstBadRow.holds Try.pinned (OpenSpec.ofChange fnFirstBadSpec)

/-- ITS FALSE NEIGHBOUR: 'it returns false'. Refute it at one input. -/
def fnFirstBadWrong : ChangeSpec := { name := "fnFirstBad", fn := fun _ => fun
  | [d] => { results := [.lit (.bool false)], args := [d] }
  | _ => none }
def FnFirstBadWrongFalsely : Prop := fnFirstBadRow.holds Try.pinned (OpenSpec.ofChange fnFirstBadWrong)

/-- 'laws.FnHoldsPrefix': WHATEVER THE INPUT: true; the input reads as it did. -/
def fnHoldsPrefixSpec : ChangeSpec := { name := "fnHoldsPrefix", fn := fun _ => fun
  | [d] => { results := [.lit (.bool true)], args := [d] }
  | _ => none }
def fnHoldsPrefixRow : OpenClaim := { program := "ytbfdpegjflhboaa", sum := "988dc86ce410d46d90641f04f22b0f4cc2955fca41365ba1f6ee3ac5f5ea2bd5", func := "loop.example/dualmodes/laws.FnHoldsPrefix", spec := "fnHoldsPrefix", unfollowed := true, recurses := true, apart := false }
def FnHoldsPrefixSaid : Prop := fnHoldsPrefixRow.holds Try.pinned (OpenSpec.ofChange fnHoldsPrefixSpec)

/-- ITS FALSE NEIGHBOUR: 'it returns false'. Refute it at one input. -/
def fnHoldsPrefixWrong : ChangeSpec := { name := "fnHoldsPrefix", fn := fun _ => fun
  | [d] => { results := [.lit (.bool false)], args := [d] }
  | _ => none }
def FnHoldsPrefixWrongFalsely : Prop := fnHoldsPrefixRow.holds Try.pinned (OpenSpec.ofChange fnHoldsPrefixWrong)

/- THE SECOND FORM. 'bulk': how many values and letters a reading holds, each counted each time it is reached (what is shared counts as often as it is met; a slice's spare places count too). A statement '..UptoSaid' is the law's where the arguments, and the package variables that the reading takes, are together of bulk at most 1048576: NARROWER than '..Said'. Prove '..Said' where nothing that the law and all that it calls make is longer than what came in: it says more and counts as full. Else prove '..UptoSaid'. A law counts once. -/
mutual
def uptoBulk {H : Type} : DataW H → Nat
  | .lit (.string bytes) => bytes.length + 1
  | .lit _ => 1
  | .nil => 1
  | .ptr d => uptoBulk d + 1
  | .slice elems spare => uptoBulkAll elems + uptoBulkAll spare + 1
  | .agg parts => uptoBulkAll parts + 1
  | .iface _ d => uptoBulk d + 1
  | .map entries => uptoBulkEntries entries + 1
  | .held _ => 1
def uptoBulkAll {H : Type} : List (DataW H) → Nat
  | [] => 0
  | d :: r => uptoBulk d + uptoBulkAll r
def uptoBulkEntries {H : Type} : List (Lit × DataW H) → Nat
  | [] => 0
  | x :: r => uptoBulkEntry x + uptoBulkEntries r
def uptoBulkEntry {H : Type} : Lit × DataW H → Nat
  | (.string bytes, d) => bytes.length + uptoBulk d + 1
  | (_, d) => uptoBulk d + 1
 end
def uptoSmall : (H : Type) → List (DataW H) → Bool := fun _ ds => decide (uptoBulkAll ds ≤ 1048576)
def OpenSpec.upto (s : _root_.Go.ChangeSpec) : _root_.Go.OpenSpec := { _root_.Go.OpenSpec.ofChange s with cond := some uptoSmall }

/-- 'laws.FnResponseFirst', WHERE WHAT IT READS IS OF BULK AT MOST 1048576: true; the input reads as it did. -/
def fnResponseFirstUptoRow : OpenClaim := { program := "ytbfdpegjflhboaa", sum := "988dc86ce410d46d90641f04f22b0f4cc2955fca41365ba1f6ee3ac5f5ea2bd5", func := "loop.example/dualmodes/laws.FnResponseFirst", spec := "fnResponseFirst", unfollowed := true, recurses := true, apart := false, narrowed := true }
def FnResponseFirstUptoSaid : Prop := fnResponseFirstUptoRow.holds Try.pinned (OpenSpec.upto fnResponseFirstSpec)

/-- 'laws.FnExactFirstBad', WHERE WHAT IT READS IS OF BULK AT MOST 1048576: true; the input reads as it did. -/
def fnExactFirstBadUptoRow : OpenClaim := { program := "ytbfdpegjflhboaa", sum := "988dc86ce410d46d90641f04f22b0f4cc2955fca41365ba1f6ee3ac5f5ea2bd5", func := "loop.example/dualmodes/laws.FnExactFirstBad", spec := "fnExactFirstBad", unfollowed := true, recurses := true, apart := false, narrowed := true }
def FnExactFirstBadUptoSaid : Prop := fnExactFirstBadUptoRow.holds Try.pinned (OpenSpec.upto fnExactFirstBadSpec)

/-- 'laws.FnExactHoldsBoth', WHERE WHAT IT READS IS OF BULK AT MOST 1048576: true; the input reads as it did. -/
def fnExactHoldsBothUptoRow : OpenClaim := { program := "ytbfdpegjflhboaa", sum := "988dc86ce410d46d90641f04f22b0f4cc2955fca41365ba1f6ee3ac5f5ea2bd5", func := "loop.example/dualmodes/laws.FnExactHoldsBoth", spec := "fnExactHoldsBoth", unfollowed := true, recurses := true, apart := false, narrowed := true }
def FnExactHoldsBothUptoSaid : Prop := fnExactHoldsBothUptoRow.holds Try.pinned (OpenSpec.upto fnExactHoldsBothSpec)

/-- 'laws.FnBusyMore', WHERE WHAT IT READS IS OF BULK AT MOST 1048576: true; the input reads as it did. -/
def fnBusyMoreUptoRow : OpenClaim := { program := "ytbfdpegjflhboaa", sum := "988dc86ce410d46d90641f04f22b0f4cc2955fca41365ba1f6ee3ac5f5ea2bd5", func := "loop.example/dualmodes/laws.FnBusyMore", spec := "fnBusyMore", unfollowed := true, recurses := true, apart := false, narrowed := true }
def FnBusyMoreUptoSaid : Prop := fnBusyMoreUptoRow.holds Try.pinned (OpenSpec.upto fnBusyMoreSpec)

/-- 'laws.FnHighCritical', WHERE WHAT IT READS IS OF BULK AT MOST 1048576: true; the input reads as it did. -/
def fnHighCriticalUptoRow : OpenClaim := { program := "ytbfdpegjflhboaa", sum := "988dc86ce410d46d90641f04f22b0f4cc2955fca41365ba1f6ee3ac5f5ea2bd5", func := "loop.example/dualmodes/laws.FnHighCritical", spec := "fnHighCritical", unfollowed := true, recurses := true, apart := false, narrowed := true }
def FnHighCriticalUptoSaid : Prop := fnHighCriticalUptoRow.holds Try.pinned (OpenSpec.upto fnHighCriticalSpec)

/-- 'laws.FnSwitchFixed', WHERE WHAT IT READS IS OF BULK AT MOST 1048576: true; the input reads as it did. -/
def fnSwitchFixedUptoRow : OpenClaim := { program := "ytbfdpegjflhboaa", sum := "988dc86ce410d46d90641f04f22b0f4cc2955fca41365ba1f6ee3ac5f5ea2bd5", func := "loop.example/dualmodes/laws.FnSwitchFixed", spec := "fnSwitchFixed", unfollowed := true, recurses := true, apart := false, narrowed := true }
def FnSwitchFixedUptoSaid : Prop := fnSwitchFixedUptoRow.holds Try.pinned (OpenSpec.upto fnSwitchFixedSpec)

/-- 'laws.FnResponseHigh', WHERE WHAT IT READS IS OF BULK AT MOST 1048576: true; the input reads as it did. -/
def fnResponseHighUptoRow : OpenClaim := { program := "ytbfdpegjflhboaa", sum := "988dc86ce410d46d90641f04f22b0f4cc2955fca41365ba1f6ee3ac5f5ea2bd5", func := "loop.example/dualmodes/laws.FnResponseHigh", spec := "fnResponseHigh", unfollowed := true, recurses := true, apart := false, narrowed := true }
def FnResponseHighUptoSaid : Prop := fnResponseHighUptoRow.holds Try.pinned (OpenSpec.upto fnResponseHighSpec)

/-- 'laws.FnBusyLow', WHERE WHAT IT READS IS OF BULK AT MOST 1048576: true; the input reads as it did. -/
def fnBusyLowUptoRow : OpenClaim := { program := "ytbfdpegjflhboaa", sum := "988dc86ce410d46d90641f04f22b0f4cc2955fca41365ba1f6ee3ac5f5ea2bd5", func := "loop.example/dualmodes/laws.FnBusyLow", spec := "fnBusyLow", unfollowed := true, recurses := true, apart := false, narrowed := true }
def FnBusyLowUptoSaid : Prop := fnBusyLowUptoRow.holds Try.pinned (OpenSpec.upto fnBusyLowSpec)

/-- 'laws.FnResponseSwitch', WHERE WHAT IT READS IS OF BULK AT MOST 1048576: true; the input reads as it did. -/
def fnResponseSwitchUptoRow : OpenClaim := { program := "ytbfdpegjflhboaa", sum := "988dc86ce410d46d90641f04f22b0f4cc2955fca41365ba1f6ee3ac5f5ea2bd5", func := "loop.example/dualmodes/laws.FnResponseSwitch", spec := "fnResponseSwitch", unfollowed := true, recurses := true, apart := false, narrowed := true }
def FnResponseSwitchUptoSaid : Prop := fnResponseSwitchUptoRow.holds Try.pinned (OpenSpec.upto fnResponseSwitchSpec)

/-- 'laws.FnBadOne', WHERE WHAT IT READS IS OF BULK AT MOST 1048576: true; the input reads as it did. -/
def fnBadOneUptoRow : OpenClaim := { program := "ytbfdpegjflhboaa", sum := "988dc86ce410d46d90641f04f22b0f4cc2955fca41365ba1f6ee3ac5f5ea2bd5", func := "loop.example/dualmodes/laws.FnBadOne", spec := "fnBadOne", unfollowed := true, recurses := true, apart := false, narrowed := true }
def FnBadOneUptoSaid : Prop := fnBadOneUptoRow.holds Try.pinned (OpenSpec.upto fnBadOneSpec)

/-- 'laws.FnFirstBad', WHERE WHAT IT READS IS OF BULK AT MOST 1048576: true; the input reads as it did. -/
def fnFirstBadUptoRow : OpenClaim := { program := "ytbfdpegjflhboaa", sum := "988dc86ce410d46d90641f04f22b0f4cc2955fca41365ba1f6ee3ac5f5ea2bd5", func := "loop.example/dualmodes/laws.FnFirstBad", spec := "fnFirstBad", unfollowed := true, recurses := true, apart := false, narrowed := true }
def FnFirstBadUptoSaid : Prop := fnFirstBadUptoRow.holds Try.pinned (OpenSpec.upto fnFirstBadSpec)

/-- 'laws.FnHoldsPrefix', WHERE WHAT IT READS IS OF BULK AT MOST 1048576: true; the input reads as it did. -/
def fnHoldsPrefixUptoRow : OpenClaim := { program := "ytbfdpegjflhboaa", sum := "988dc86ce410d46d90641f04f22b0f4cc2955fca41365ba1f6ee3ac5f5ea2bd5", func := "loop.example/dualmodes/laws.FnHoldsPrefix", spec := "fnHoldsPrefix", unfollowed := true, recurses := true, apart := false, narrowed := true }
def FnHoldsPrefixUptoSaid : Prop := fnHoldsPrefixUptoRow.holds Try.pinned (OpenSpec.upto fnHoldsPrefixSpec)

end Rows
end Go.Proofs.Ytbfdpegjflhboaa
