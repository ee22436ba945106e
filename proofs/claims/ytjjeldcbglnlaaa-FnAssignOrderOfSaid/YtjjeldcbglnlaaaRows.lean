/-
  No cell of these rows narrows 'for every input' (looked for: loops, veiled, ifaces, maps, wideKeys, modest, calm, conditions, laid).
  DERIVED. THE GIVEN ROWS OF THIS SEAT. 12 by the template 'for every input the law returns true; each argument reads behind the call as it read before'; 0 by the template 'total and deterministic' (their statements: YtjjeldcbglnlaaaTotals.lean).
  GIVEN WITH THE SEED: the statements are not yours to turn. If you find one false, say at which input.
  Laid BY PROGRAM, IN A SANDBOX (cutbox-rows.mjs): the forced cells as the released guide's own fill.sh prints them over the translation 0202554f63180006… (all of the seat's roots in one cut). By AI agents, Wed Nov 11 2026. No macro, syntax, notation, axiom, sorry.
-/
import Derived.Test.YtjjeldcbglnlaaaChecked
import GoSem.Claim
import GoSem.ClaimJoined
import GoSem.ClaimMapViews
import Derived.JoinedTies
import Derived.KernelRfl
namespace Go.Proofs.Ytjjeldcbglnlaaa
/- THE CELL 'sum', in the pinned program and in every row, IS THE sha256 OF THE DUMP (.gsa) THAT YtjjeldcbglnlaaaProg.lean LOADS. Nothing in Lean hashes anything: it is a label: what it is worth is what the hold of that sum in a sandbox is worth. -/
noncomputable def Try.pinned : Pinned := { name := "ytjjeldcbglnlaaa", sum := "0202554f63180006088983c9f514cb7ea0c8e4d812a3429c430c98284174677a", checked := Try.checked }
namespace Rows
def none {H : Type} : Left H := { results := [], args := [] }

/-- 'laws.FnExactCanBeLast': WHATEVER THE INPUT: true; the input reads as it did. -/
def fnExactCanBeLastSpec : ChangeSpec := { name := "fnExactCanBeLast", fn := fun _ => fun
  | [d1, d2] => { results := [.lit (.bool true)], args := [d1, d2] }
  | _ => none }
def fnExactCanBeLastRow : OpenClaim := { program := "ytjjeldcbglnlaaa", sum := "0202554f63180006088983c9f514cb7ea0c8e4d812a3429c430c98284174677a", func := "loop.example/dualmodes/laws.FnExactCanBeLast", spec := "fnExactCanBeLast", unfollowed := true, recurses := true, apart := false }
def FnExactCanBeLastSaid : Prop := fnExactCanBeLastRow.holds Try.pinned (OpenSpec.ofChange fnExactCanBeLastSpec)

/-- ITS FALSE NEIGHBOUR: 'it returns false'. Refute it at one input. -/
def fnExactCanBeLastWrong : ChangeSpec := { name := "fnExactCanBeLast", fn := fun _ => fun
  | [d1, d2] => { results := [.lit (.bool false)], args := [d1, d2] }
  | _ => none }
def FnExactCanBeLastWrongFalsely : Prop := fnExactCanBeLastRow.holds Try.pinned (OpenSpec.ofChange fnExactCanBeLastWrong)

/-- 'laws.FnHoldsBoth': WHATEVER THE INPUT: true; the input reads as it did. -/
def fnHoldsBothSpec : ChangeSpec := { name := "fnHoldsBoth", fn := fun _ => fun
  | [d] => { results := [.lit (.bool true)], args := [d] }
  | _ => none }
def fnHoldsBothRow : OpenClaim := { program := "ytjjeldcbglnlaaa", sum := "0202554f63180006088983c9f514cb7ea0c8e4d812a3429c430c98284174677a", func := "loop.example/dualmodes/laws.FnHoldsBoth", spec := "fnHoldsBoth", unfollowed := true, recurses := true, apart := false }
def FnHoldsBothSaid : Prop := fnHoldsBothRow.holds Try.pinned (OpenSpec.ofChange fnHoldsBothSpec)

/-- ITS FALSE NEIGHBOUR: 'it returns false'. Refute it at one input. -/
def fnHoldsBothWrong : ChangeSpec := { name := "fnHoldsBoth", fn := fun _ => fun
  | [d] => { results := [.lit (.bool false)], args := [d] }
  | _ => none }
def FnHoldsBothWrongFalsely : Prop := fnHoldsBothRow.holds Try.pinned (OpenSpec.ofChange fnHoldsBothWrong)

/-- 'laws.FnCanBeLast': WHATEVER THE INPUT: true; the input reads as it did. -/
def fnCanBeLastSpec : ChangeSpec := { name := "fnCanBeLast", fn := fun _ => fun
  | [d] => { results := [.lit (.bool true)], args := [d] }
  | _ => none }
def fnCanBeLastRow : OpenClaim := { program := "ytjjeldcbglnlaaa", sum := "0202554f63180006088983c9f514cb7ea0c8e4d812a3429c430c98284174677a", func := "loop.example/dualmodes/laws.FnCanBeLast", spec := "fnCanBeLast", unfollowed := true, recurses := true, apart := false }
def FnCanBeLastSaid : Prop := fnCanBeLastRow.holds Try.pinned (OpenSpec.ofChange fnCanBeLastSpec)

/-- ITS FALSE NEIGHBOUR: 'it returns false'. Refute it at one input. -/
def fnCanBeLastWrong : ChangeSpec := { name := "fnCanBeLast", fn := fun _ => fun
  | [d] => { results := [.lit (.bool false)], args := [d] }
  | _ => none }
def FnCanBeLastWrongFalsely : Prop := fnCanBeLastRow.holds Try.pinned (OpenSpec.ofChange fnCanBeLastWrong)

/-- 'laws.FnCanLow': WHATEVER THE INPUT: true; the input reads as it did. -/
def fnCanLowSpec : ChangeSpec := { name := "fnCanLow", fn := fun _ => fun
  | [d] => { results := [.lit (.bool true)], args := [d] }
  | _ => none }
def fnCanLowRow : OpenClaim := { program := "ytjjeldcbglnlaaa", sum := "0202554f63180006088983c9f514cb7ea0c8e4d812a3429c430c98284174677a", func := "loop.example/dualmodes/laws.FnCanLow", spec := "fnCanLow", unfollowed := true, recurses := true, apart := false }
def FnCanLowSaid : Prop := fnCanLowRow.holds Try.pinned (OpenSpec.ofChange fnCanLowSpec)

/-- ITS FALSE NEIGHBOUR: 'it returns false'. Refute it at one input. -/
def fnCanLowWrong : ChangeSpec := { name := "fnCanLow", fn := fun _ => fun
  | [d] => { results := [.lit (.bool false)], args := [d] }
  | _ => none }
def FnCanLowWrongFalsely : Prop := fnCanLowRow.holds Try.pinned (OpenSpec.ofChange fnCanLowWrong)

/-- 'laws.FnHoldsLow': WHATEVER THE INPUT: true; the input reads as it did. -/
def fnHoldsLowSpec : ChangeSpec := { name := "fnHoldsLow", fn := fun _ => fun
  | [d] => { results := [.lit (.bool true)], args := [d] }
  | _ => none }
def fnHoldsLowRow : OpenClaim := { program := "ytjjeldcbglnlaaa", sum := "0202554f63180006088983c9f514cb7ea0c8e4d812a3429c430c98284174677a", func := "loop.example/dualmodes/laws.FnHoldsLow", spec := "fnHoldsLow", unfollowed := true, recurses := true, apart := false }
def FnHoldsLowSaid : Prop := fnHoldsLowRow.holds Try.pinned (OpenSpec.ofChange fnHoldsLowSpec)

/-- ITS FALSE NEIGHBOUR: 'it returns false'. Refute it at one input. -/
def fnHoldsLowWrong : ChangeSpec := { name := "fnHoldsLow", fn := fun _ => fun
  | [d] => { results := [.lit (.bool false)], args := [d] }
  | _ => none }
def FnHoldsLowWrongFalsely : Prop := fnHoldsLowRow.holds Try.pinned (OpenSpec.ofChange fnHoldsLowWrong)

/-- 'laws.FnBusyShare': WHATEVER THE INPUT: true; the input reads as it did. -/
def fnBusyShareSpec : ChangeSpec := { name := "fnBusyShare", fn := fun _ => fun
  | [d] => { results := [.lit (.bool true)], args := [d] }
  | _ => none }
def fnBusyShareRow : OpenClaim := { program := "ytjjeldcbglnlaaa", sum := "0202554f63180006088983c9f514cb7ea0c8e4d812a3429c430c98284174677a", func := "loop.example/dualmodes/laws.FnBusyShare", spec := "fnBusyShare", unfollowed := true, recurses := true, apart := false }
def FnBusyShareSaid : Prop := fnBusyShareRow.holds Try.pinned (OpenSpec.ofChange fnBusyShareSpec)

/-- ITS FALSE NEIGHBOUR: 'it returns false'. Refute it at one input. -/
def fnBusyShareWrong : ChangeSpec := { name := "fnBusyShare", fn := fun _ => fun
  | [d] => { results := [.lit (.bool false)], args := [d] }
  | _ => none }
def FnBusyShareWrongFalsely : Prop := fnBusyShareRow.holds Try.pinned (OpenSpec.ofChange fnBusyShareWrong)

/-- 'laws.FnHoldsSwitch': WHATEVER THE INPUT: true; the input reads as it did. -/
def fnHoldsSwitchSpec : ChangeSpec := { name := "fnHoldsSwitch", fn := fun _ => fun
  | [d] => { results := [.lit (.bool true)], args := [d] }
  | _ => none }
def fnHoldsSwitchRow : OpenClaim := { program := "ytjjeldcbglnlaaa", sum := "0202554f63180006088983c9f514cb7ea0c8e4d812a3429c430c98284174677a", func := "loop.example/dualmodes/laws.FnHoldsSwitch", spec := "fnHoldsSwitch", unfollowed := true, recurses := true, apart := false }
def FnHoldsSwitchSaid : Prop := fnHoldsSwitchRow.holds Try.pinned (OpenSpec.ofChange fnHoldsSwitchSpec)

/-- ITS FALSE NEIGHBOUR: 'it returns false'. Refute it at one input. -/
def fnHoldsSwitchWrong : ChangeSpec := { name := "fnHoldsSwitch", fn := fun _ => fun
  | [d] => { results := [.lit (.bool false)], args := [d] }
  | _ => none }
def FnHoldsSwitchWrongFalsely : Prop := fnHoldsSwitchRow.holds Try.pinned (OpenSpec.ofChange fnHoldsSwitchWrong)

/-- 'laws.FnLastHolds': WHATEVER THE INPUT: true; the input reads as it did. -/
def fnLastHoldsSpec : ChangeSpec := { name := "fnLastHolds", fn := fun _ => fun
  | [d] => { results := [.lit (.bool true)], args := [d] }
  | _ => none }
def fnLastHoldsRow : OpenClaim := { program := "ytjjeldcbglnlaaa", sum := "0202554f63180006088983c9f514cb7ea0c8e4d812a3429c430c98284174677a", func := "loop.example/dualmodes/laws.FnLastHolds", spec := "fnLastHolds", unfollowed := true, recurses := true, apart := false }
def FnLastHoldsSaid : Prop := fnLastHoldsRow.holds Try.pinned (OpenSpec.ofChange fnLastHoldsSpec)

/-- ITS FALSE NEIGHBOUR: 'it returns false'. Refute it at one input. -/
def fnLastHoldsWrong : ChangeSpec := { name := "fnLastHolds", fn := fun _ => fun
  | [d] => { results := [.lit (.bool false)], args := [d] }
  | _ => none }
def FnLastHoldsWrongFalsely : Prop := fnLastHoldsRow.holds Try.pinned (OpenSpec.ofChange fnLastHoldsWrong)

/-- 'laws.FnExactAssignOrder': WHATEVER THE INPUT: true; the input reads as it did. -/
def fnExactAssignOrderSpec : ChangeSpec := { name := "fnExactAssignOrder", fn := fun _ => fun
  | [d] => { results := [.lit (.bool true)], args := [d] }
  | _ => none }
def fnExactAssignOrderRow : OpenClaim := { program := "ytjjeldcbglnlaaa", sum := "0202554f63180006088983c9f514cb7ea0c8e4d812a3429c430c98284174677a", func := "loop.example/dualmodes/laws.FnExactAssignOrder", spec := "fnExactAssignOrder", unfollowed := true, recurses := true, apart := false }
def FnExactAssignOrderSaid : Prop := fnExactAssignOrderRow.holds Try.pinned (OpenSpec.ofChange fnExactAssignOrderSpec)

/-- ITS FALSE NEIGHBOUR: 'it returns false'. Refute it at one input. -/
def fnExactAssignOrderWrong : ChangeSpec := { name := "fnExactAssignOrder", fn := fun _ => fun
  | [d] => { results := [.lit (.bool false)], args := [d] }
  | _ => none }
def FnExactAssignOrderWrongFalsely : Prop := fnExactAssignOrderRow.holds Try.pinned (OpenSpec.ofChange fnExactAssignOrderWrong)

/-- 'laws.FnAssignLast': WHATEVER THE INPUT: true; the input reads as it did. -/
def fnAssignLastSpec : ChangeSpec := { name := "fnAssignLast", fn := fun _ => fun
  | [d] => { results := [.lit (.bool true)], args := [d] }
  | _ => none }
def fnAssignLastRow : OpenClaim := { program := "ytjjeldcbglnlaaa", sum := "0202554f63180006088983c9f514cb7ea0c8e4d812a3429c430c98284174677a", func := "loop.example/dualmodes/laws.FnAssignLast", spec := "fnAssignLast", unfollowed := true, recurses := true, apart := false }
def FnAssignLastSaid : Prop := fnAssignLastRow.holds Try.pinned (OpenSpec.ofChange fnAssignLastSpec)

/-- ITS FALSE NEIGHBOUR: 'it returns false'. Refute it at one input. -/
def fnAssignLastWrong : ChangeSpec := { name := "fnAssignLast", fn := fun _ => fun
  | [d] => { results := [.lit (.bool false)], args := [d] }
  | _ => none }
def FnAssignLastWrongFalsely : Prop := fnAssignLastRow.holds Try.pinned (OpenSpec.ofChange fnAssignLastWrong)

/-- 'laws.FnAssignOrderOf': WHATEVER THE INPUT: true; the input reads as it did. -/
def fnAssignOrderOfSpec : ChangeSpec := { name := "fnAssignOrderOf", fn := fun _ => fun
  | [d] => { results := [.lit (.bool true)], args := [d] }
  | _ => none }
def fnAssignOrderOfRow : OpenClaim := { program := "ytjjeldcbglnlaaa", sum := "0202554f63180006088983c9f514cb7ea0c8e4d812a3429c430c98284174677a", func := "loop.example/dualmodes/laws.FnAssignOrderOf", spec := "fnAssignOrderOf", unfollowed := true, recurses := true, apart := false }
def FnAssignOrderOfSaid : Prop := fnAssignOrderOfRow.holds Try.pinned (OpenSpec.ofChange fnAssignOrderOfSpec)

/-- ITS FALSE NEIGHBOUR: 'it returns false'. Refute it at one input. -/
def fnAssignOrderOfWrong : ChangeSpec := { name := "fnAssignOrderOf", fn := fun _ => fun
  | [d] => { results := [.lit (.bool false)], args := [d] }
  | _ => none }
def FnAssignOrderOfWrongFalsely : Prop := fnAssignOrderOfRow.holds Try.pinned (OpenSpec.ofChange fnAssignOrderOfWrong)

/-- 'laws.FnAssignLess': WHATEVER THE INPUT: true; the input reads as it did. -/
def fnAssignLessSpec : ChangeSpec := { name := "fnAssignLess", fn := fun _ => fun
  | [d] => { results := [.lit (.bool true)], args := [d] }
  | _ => none }
def fnAssignLessRow : OpenClaim := { program := "ytjjeldcbglnlaaa", sum := "0202554f63180006088983c9f514cb7ea0c8e4d812a3429c430c98284174677a", func := "loop.example/dualmodes/laws.FnAssignLess", spec := "fnAssignLess", unfollowed := true, recurses := true, apart := false }
def FnAssignLessSaid : Prop := fnAssignLessRow.holds Try.pinned (OpenSpec.ofChange fnAssignLessSpec)

/-- ITS FALSE NEIGHBOUR: 'it returns false'. Refute it at one input. -/
def fnAssignLessWrong : ChangeSpec := { name := "fnAssignLess", fn := fun _ => fun
  | [d] => { results := [.lit (.bool false)], args := [d] }
  | _ => none }
def FnAssignLessWrongFalsely : Prop := fnAssignLessRow.holds Try.pinned (OpenSpec.ofChange fnAssignLessWrong)

/- THE SECOND FORM. 'bulk': how many values and letters a reading holds, each counted each time it is reached (what is shared counts as often as it is met; a slice's spare places count too). A statement '..UptoSaid' is the law's where the arguments, and the package variables that the reading takes, are together of bulk at most 1048576: NARROWER than '..Said'. Prove '..Said' where nothing that the law and all that it calls make is longer than what came in: it says more and counts as full. Else prove '..UptoSaid'. A law counts once. -/
mutual
def uptoBulk {H : Type} : DataW H → Nat
  | .lit (.string bytes) => bytes.length + 1
  | .lit _ => 1
  | .nil => 1
  | .ptr d => uptoBulk d + 1
  | .slice elems spare => uptoBulkAll elems + uptoBulkAll spare + 1
  | .agg parts => uptoBulkAll parts + 1
  | .iface _ d => uptoBulk d + 1
  | .map entries => uptoBulkEntries entries + 1
  | .held _ => 1
def uptoBulkAll {H : Type} : List (DataW H) → Nat
  | [] => 0
  | d :: r => uptoBulk d + uptoBulkAll r
def uptoBulkEntries {H : Type} : List (Lit × DataW H) → Nat
  | [] => 0
  | x :: r => uptoBulkEntry x + uptoBulkEntries r
def uptoBulkEntry {H : Type} : Lit × DataW H → Nat
  | (.string bytes, d) => bytes.length + uptoBulk d + 1
  | (_, d) => uptoBulk d + 1
 end
def uptoSmall : (H : Type) → List (DataW H) → Bool := fun _ ds => decide (uptoBulkAll ds ≤ 1048576)
def OpenSpec.upto (s : _root_.Go.ChangeSpec) : _root_.Go.OpenSpec := { _root_.Go.OpenSpec.ofChange s with cond := some uptoSmall }

/-- 'laws.FnExactCanBeLast', WHERE WHAT IT READS IS OF BULK AT MOST 1048576: true; the input reads as it did. -/
def fnExactCanBeLastUptoRow : OpenClaim := { program := "ytjjeldcbglnlaaa", sum := "0202554f63180006088983c9f514cb7ea0c8e4d812a3429c430c98284174677a", func := "loop.example/dualmodes/laws.FnExactCanBeLast", spec := "fnExactCanBeLast", unfollowed := true, recurses := true, apart := false, narrowed := true }
def FnExactCanBeLastUptoSaid : Prop := fnExactCanBeLastUptoRow.holds Try.pinned (OpenSpec.upto fnExactCanBeLastSpec)

/-- 'laws.FnHoldsBoth', WHERE WHAT IT READS IS OF BULK AT MOST 1048576: true; the input reads as it did. -/
def fnHoldsBothUptoRow : OpenClaim := { program := "ytjjeldcbglnlaaa", sum := "0202554f63180006088983c9f514cb7ea0c8e4d812a3429c430c98284174677a", func := "loop.example/dualmodes/laws.FnHoldsBoth", spec := "fnHoldsBoth", unfollowed := true, recurses := true, apart := false, narrowed := true }
def FnHoldsBothUptoSaid : Prop := fnHoldsBothUptoRow.holds Try.pinned (OpenSpec.upto fnHoldsBothSpec)

/-- 'laws.FnCanBeLast', WHERE WHAT IT READS IS OF BULK AT MOST 1048576: true; the input reads as it did. -/
def fnCanBeLastUptoRow : OpenClaim := { program := "ytjjeldcbglnlaaa", sum := "0202554f63180006088983c9f514cb7ea0c8e4d812a3429c430c98284174677a", func := "loop.example/dualmodes/laws.FnCanBeLast", spec := "fnCanBeLast", unfollowed := true, recurses := true, apart := false, narrowed := true }
def FnCanBeLastUptoSaid : Prop := fnCanBeLastUptoRow.holds Try.pinned (OpenSpec.upto fnCanBeLastSpec)

/-- 'laws.FnCanLow', WHERE WHAT IT READS IS OF BULK AT MOST 1048576: true; the input reads as it did. -/
def fnCanLowUptoRow : OpenClaim := { program := "ytjjeldcbglnlaaa", sum := "0202554f63180006088983c9f514cb7ea0c8e4d812a3429c430c98284174677a", func := "loop.example/dualmodes/laws.FnCanLow", spec := "fnCanLow", unfollowed := true, recurses := true, apart := false, narrowed := true }
def FnCanLowUptoSaid : Prop := fnCanLowUptoRow.holds Try.pinned (OpenSpec.upto fnCanLowSpec)

/-- 'laws.FnHoldsLow', WHERE WHAT IT READS IS OF BULK AT MOST 1048576: true; the input reads as it did. -/
def fnHoldsLowUptoRow : OpenClaim := { program := "ytjjeldcbglnlaaa", sum := "0202554f63180006088983c9f514cb7ea0c8e4d812a3429c430c98284174677a", func := "loop.example/dualmodes/laws.FnHoldsLow", spec := "fnHoldsLow", unfollowed := true, recurses := true, apart := false, narrowed := true }
def FnHoldsLowUptoSaid : Prop := fnHoldsLowUptoRow.holds Try.pinned (OpenSpec.upto fnHoldsLowSpec)

/-- 'laws.FnBusyShare', WHERE WHAT IT READS IS OF BULK AT MOST 1048576: true; the input reads as it did. -/
def fnBusyShareUptoRow : OpenClaim := { program := "ytjjeldcbglnlaaa", sum := "0202554f63180006088983c9f514cb7ea0c8e4d812a3429c430c98284174677a", func := "loop.example/dualmodes/laws.FnBusyShare", spec := "fnBusyShare", unfollowed := true, recurses := true, apart := false, narrowed := true }
def FnBusyShareUptoSaid : Prop := fnBusyShareUptoRow.holds Try.pinned (OpenSpec.upto fnBusyShareSpec)

/-- 'laws.FnHoldsSwitch', WHERE WHAT IT READS IS OF BULK AT MOST 1048576: true; the input reads as it did. -/
def fnHoldsSwitchUptoRow : OpenClaim := { program := "ytjjeldcbglnlaaa", sum := "0202554f63180006088983c9f514cb7ea0c8e4d812a3429c430c98284174677a", func := "loop.example/dualmodes/laws.FnHoldsSwitch", spec := "fnHoldsSwitch", unfollowed := true, recurses := true, apart := false, narrowed := true }
def FnHoldsSwitchUptoSaid : Prop := fnHoldsSwitchUptoRow.holds Try.pinned (OpenSpec.upto fnHoldsSwitchSpec)

/-- 'laws.FnLastHolds', WHERE WHAT IT READS IS OF BULK AT MOST 1048576: true; the input reads as it did. -/
def fnLastHoldsUptoRow : OpenClaim := { program := "ytjjeldcbglnlaaa", sum := "0202554f63180006088983c9f514cb7ea0c8e4d812a3429c430c98284174677a", func := "loop.example/dualmodes/laws.FnLastHolds", spec := "fnLastHolds", unfollowed := true, recurses := true, apart := false, narrowed := true }
def FnLastHoldsUptoSaid : Prop := fnLastHoldsUptoRow.holds Try.pinned (OpenSpec.upto fnLastHoldsSpec)

/-- 'laws.FnExactAssignOrder', WHERE WHAT IT READS IS OF BULK AT MOST 1048576: true; the input reads as it did. -/
def fnExactAssignOrderUptoRow : OpenClaim := { program := "ytjjeldcbglnlaaa", sum := "0202554f63180006088983c9f514cb7ea0c8e4d812a3429c430c98284174677a", func := "loop.example/dualmodes/laws.FnExactAssignOrder", spec := "fnExactAssignOrder", unfollowed := true, recurses := true, apart := false, narrowed := true }
def FnExactAssignOrderUptoSaid : Prop := fnExactAssignOrderUptoRow.holds Try.pinned (OpenSpec.upto fnExactAssignOrderSpec)

/-- 'laws.FnAssignLast', WHERE WHAT IT READS IS OF BULK AT MOST 1048576: true; the input reads as it did. -/
def fnAssignLastUptoRow : OpenClaim := { program := "ytjjeldcbglnlaaa", sum := "0202554f63180006088983c9f514cb7ea0c8e4d812a3429c430c98284174677a", func := "loop.example/dualmodes/laws.FnAssignLast", spec := "fnAssignLast", unfollowed := true, recurses := true, apart := false, narrowed := true }
def FnAssignLastUptoSaid : Prop := fnAssignLastUptoRow.holds Try.pinned (OpenSpec.upto fnAssignLastSpec)

/-- 'laws.FnAssignOrderOf', WHERE WHAT IT READS IS OF BULK AT MOST 1048576: true; the input reads as it did. -/
def fnAssignOrderOfUptoRow : OpenClaim := { program := "ytjjeldcbglnlaaa", sum := "0202554f63180006088983c9f514cb7ea0c8e4d812a3429c430c98284174677a", func := "loop.example/dualmodes/laws.FnAssignOrderOf", spec := "fnAssignOrderOf", unfollowed := true, recurses := true, apart := false, narrowed := true }
def FnAssignOrderOfUptoSaid : Prop := fnAssignOrderOfUptoRow.holds Try.pinned (OpenSpec.upto fnAssignOrderOfSpec)

/-- 'laws.FnAssignLess', WHERE WHAT IT READS IS OF BULK AT MOST 1048576: true; the input reads as it did. -/
def fnAssignLessUptoRow : OpenClaim := { program := "ytjjeldcbglnlaaa", sum := "0202554f63180006088983c9f514cb7ea0c8e4d812a3429c430c98284174677a", func := "loop.example/dualmodes/laws.FnAssignLess", spec := "fnAssignLess", unfollowed := true, recurses := true, apart := false, narrowed := true }
def FnAssignLessUptoSaid : Prop := fnAssignLessUptoRow.holds Try.pinned (OpenSpec.upto fnAssignLessSpec)

end Rows
end Go.Proofs.Ytjjeldcbglnlaaa
