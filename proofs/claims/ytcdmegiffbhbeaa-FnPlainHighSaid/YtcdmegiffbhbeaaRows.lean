/-
  No cell of these rows narrows 'for every input' (looked for: loops, veiled, ifaces, maps, wideKeys, modest, calm, conditions, laid).
  DERIVED. THE GIVEN ROWS OF THIS SEAT. 12 by the template 'for every input the law returns true; each argument reads behind the call as it read before'; 0 by the template 'total and deterministic' (their statements: YtcdmegiffbhbeaaTotals.lean).
  GIVEN WITH THE SEED: the statements are not yours to turn. If you find one false, say at which input.
  Laid BY PROGRAM, IN A SANDBOX (cutbox-rows.mjs): the forced cells as the released guide's own fill.sh prints them over the translation 116042f701291bc6… (all of the seat's roots in one cut). By AI agents, Wed Nov 11 2026. No macro, syntax, notation, axiom, sorry.
-/
import Derived.Test.YtcdmegiffbhbeaaChecked
import GoSem.Claim
import GoSem.ClaimJoined
import GoSem.ClaimMapViews
import Derived.JoinedTies
import Derived.KernelRfl
namespace Go.Proofs.Ytcdmegiffbhbeaa
/- THE CELL 'sum', in the pinned program and in every row, IS THE sha256 OF THE DUMP (.gsa) THAT YtcdmegiffbhbeaaProg.lean LOADS. Nothing in Lean hashes anything: it is a label: what it is worth is what the hold of that sum in a sandbox is worth. -/
noncomputable def Try.pinned : Pinned := { name := "ytcdmegiffbhbeaa", sum := "116042f701291bc695dc6f1f6a09019360b71975ccae0ea431b45838f6f8d2b9", checked := Try.checked }
namespace Rows
def none {H : Type} : Left H := { results := [], args := [] }

/-- 'laws.FnImplicit': WHATEVER THE INPUT: true; the input reads as it did. -/
def fnImplicitSpec : ChangeSpec := { name := "fnImplicit", fn := fun _ => fun
  | [d] => { results := [.lit (.bool true)], args := [d] }
  | _ => none }
def fnImplicitRow : OpenClaim := { program := "ytcdmegiffbhbeaa", sum := "116042f701291bc695dc6f1f6a09019360b71975ccae0ea431b45838f6f8d2b9", func := "loop.example/dualmodes/laws.FnImplicit", spec := "fnImplicit", apart := false }
def FnImplicitSaid : Prop := fnImplicitRow.holds Try.pinned (OpenSpec.ofChange fnImplicitSpec)

/-- ITS FALSE NEIGHBOUR: 'it returns false'. Refute it at one input. -/
def fnImplicitWrong : ChangeSpec := { name := "fnImplicit", fn := fun _ => fun
  | [d] => { results := [.lit (.bool false)], args := [d] }
  | _ => none }
def FnImplicitWrongFalsely : Prop := fnImplicitRow.holds Try.pinned (OpenSpec.ofChange fnImplicitWrong)

/-- 'laws.FnVirtualOne': WHATEVER THE INPUT: true; the input reads as it did. -/
def fnVirtualOneSpec : ChangeSpec := { name := "fnVirtualOne", fn := fun _ => fun
  | [d] => { results := [.lit (.bool true)], args := [d] }
  | _ => none }
def fnVirtualOneRow : OpenClaim := { program := "ytcdmegiffbhbeaa", sum := "116042f701291bc695dc6f1f6a09019360b71975ccae0ea431b45838f6f8d2b9", func := "loop.example/dualmodes/laws.FnVirtualOne", spec := "fnVirtualOne", apart := false }
def FnVirtualOneSaid : Prop := fnVirtualOneRow.holds Try.pinned (OpenSpec.ofChange fnVirtualOneSpec)

/-- ITS FALSE NEIGHBOUR: 'it returns false'. Refute it at one input. -/
def fnVirtualOneWrong : ChangeSpec := { name := "fnVirtualOne", fn := fun _ => fun
  | [d] => { results := [.lit (.bool false)], args := [d] }
  | _ => none }
def FnVirtualOneWrongFalsely : Prop := fnVirtualOneRow.holds Try.pinned (OpenSpec.ofChange fnVirtualOneWrong)

/-- 'laws.FnExactHoldsPlain': WHATEVER THE INPUT: true; the input reads as it did. -/
def fnExactHoldsPlainSpec : ChangeSpec := { name := "fnExactHoldsPlain", fn := fun _ => fun
  | [d] => { results := [.lit (.bool true)], args := [d] }
  | _ => none }
def fnExactHoldsPlainRow : OpenClaim := { program := "ytcdmegiffbhbeaa", sum := "116042f701291bc695dc6f1f6a09019360b71975ccae0ea431b45838f6f8d2b9", func := "loop.example/dualmodes/laws.FnExactHoldsPlain", spec := "fnExactHoldsPlain", apart := false }
def FnExactHoldsPlainSaid : Prop := fnExactHoldsPlainRow.holds Try.pinned (OpenSpec.ofChange fnExactHoldsPlainSpec)

/-- ITS FALSE NEIGHBOUR: 'it returns false'. Refute it at one input. -/
def fnExactHoldsPlainWrong : ChangeSpec := { name := "fnExactHoldsPlain", fn := fun _ => fun
  | [d] => { results := [.lit (.bool false)], args := [d] }
  | _ => none }
def FnExactHoldsPlainWrongFalsely : Prop := fnExactHoldsPlainRow.holds Try.pinned (OpenSpec.ofChange fnExactHoldsPlainWrong)

/-- 'laws.FnExactLoadOf': WHATEVER THE INPUT: true; the input reads as it did. -/
def fnExactLoadOfSpec : ChangeSpec := { name := "fnExactLoadOf", fn := fun _ => fun
  | [d] => { results := [.lit (.bool true)], args := [d] }
  | _ => none }
def fnExactLoadOfRow : OpenClaim := { program := "ytcdmegiffbhbeaa", sum := "116042f701291bc695dc6f1f6a09019360b71975ccae0ea431b45838f6f8d2b9", func := "loop.example/dualmodes/laws.FnExactLoadOf", spec := "fnExactLoadOf", apart := false }
def FnExactLoadOfSaid : Prop := fnExactLoadOfRow.holds Try.pinned (OpenSpec.ofChange fnExactLoadOfSpec)

/-- ITS FALSE NEIGHBOUR: 'it returns false'. Refute it at one input. -/
def fnExactLoadOfWrong : ChangeSpec := { name := "fnExactLoadOf", fn := fun _ => fun
  | [d] => { results := [.lit (.bool false)], args := [d] }
  | _ => none }
def FnExactLoadOfWrongFalsely : Prop := fnExactLoadOfRow.holds Try.pinned (OpenSpec.ofChange fnExactLoadOfWrong)

/-- 'laws.FnExactFactorOf': WHATEVER THE INPUT: true; the input reads as it did. -/
def fnExactFactorOfSpec : ChangeSpec := { name := "fnExactFactorOf", fn := fun _ => fun
  | [d] => { results := [.lit (.bool true)], args := [d] }
  | _ => none }
def fnExactFactorOfRow : OpenClaim := { program := "ytcdmegiffbhbeaa", sum := "116042f701291bc695dc6f1f6a09019360b71975ccae0ea431b45838f6f8d2b9", func := "loop.example/dualmodes/laws.FnExactFactorOf", spec := "fnExactFactorOf", apart := false }
def FnExactFactorOfSaid : Prop := fnExactFactorOfRow.holds Try.pinned (OpenSpec.ofChange fnExactFactorOfSpec)

/-- ITS FALSE NEIGHBOUR: 'it returns false'. Refute it at one input. -/
def fnExactFactorOfWrong : ChangeSpec := { name := "fnExactFactorOf", fn := fun _ => fun
  | [d] => { results := [.lit (.bool false)], args := [d] }
  | _ => none }
def FnExactFactorOfWrongFalsely : Prop := fnExactFactorOfRow.holds Try.pinned (OpenSpec.ofChange fnExactFactorOfWrong)

/-- 'laws.FnLoadHigh': WHATEVER THE INPUT: true; the input reads as it did. -/
def fnLoadHighSpec : ChangeSpec := { name := "fnLoadHigh", fn := fun _ => fun
  | [d] => { results := [.lit (.bool true)], args := [d] }
  | _ => none }
def fnLoadHighRow : OpenClaim := { program := "ytcdmegiffbhbeaa", sum := "116042f701291bc695dc6f1f6a09019360b71975ccae0ea431b45838f6f8d2b9", func := "loop.example/dualmodes/laws.FnLoadHigh", spec := "fnLoadHigh", apart := false }
def FnLoadHighSaid : Prop := fnLoadHighRow.holds Try.pinned (OpenSpec.ofChange fnLoadHighSpec)

/-- ITS FALSE NEIGHBOUR: 'it returns false'. Refute it at one input. -/
def fnLoadHighWrong : ChangeSpec := { name := "fnLoadHigh", fn := fun _ => fun
  | [d] => { results := [.lit (.bool false)], args := [d] }
  | _ => none }
def FnLoadHighWrongFalsely : Prop := fnLoadHighRow.holds Try.pinned (OpenSpec.ofChange fnLoadHighWrong)

/-- 'laws.FnPlainFactor': WHATEVER THE INPUT: true; the input reads as it did. -/
def fnPlainFactorSpec : ChangeSpec := { name := "fnPlainFactor", fn := fun _ => fun
  | [d] => { results := [.lit (.bool true)], args := [d] }
  | _ => none }
def fnPlainFactorRow : OpenClaim := { program := "ytcdmegiffbhbeaa", sum := "116042f701291bc695dc6f1f6a09019360b71975ccae0ea431b45838f6f8d2b9", func := "loop.example/dualmodes/laws.FnPlainFactor", spec := "fnPlainFactor", apart := false }
def FnPlainFactorSaid : Prop := fnPlainFactorRow.holds Try.pinned (OpenSpec.ofChange fnPlainFactorSpec)

/-- ITS FALSE NEIGHBOUR: 'it returns false'. Refute it at one input. -/
def fnPlainFactorWrong : ChangeSpec := { name := "fnPlainFactor", fn := fun _ => fun
  | [d] => { results := [.lit (.bool false)], args := [d] }
  | _ => none }
def FnPlainFactorWrongFalsely : Prop := fnPlainFactorRow.holds Try.pinned (OpenSpec.ofChange fnPlainFactorWrong)

/-- 'laws.FnPlainHigh': WHATEVER THE INPUT: true; the input reads as it did. -/
def fnPlainHighSpec : ChangeSpec := { name := "fnPlainHigh", fn := fun _ => fun
  | [d] => { results := [.lit (.bool true)], args := [d] }
  | _ => none }
def fnPlainHighRow : OpenClaim := { program := "ytcdmegiffbhbeaa", sum := "116042f701291bc695dc6f1f6a09019360b71975ccae0ea431b45838f6f8d2b9", func := "loop.example/dualmodes/laws.FnPlainHigh", spec := "fnPlainHigh", apart := false }
def FnPlainHighSaid : Prop := fnPlainHighRow.holds Try.pinned (OpenSpec.ofChange fnPlainHighSpec)

/-- ITS FALSE NEIGHBOUR: 'it returns false'. Refute it at one input. -/
def fnPlainHighWrong : ChangeSpec := { name := "fnPlainHigh", fn := fun _ => fun
  | [d] => { results := [.lit (.bool false)], args := [d] }
  | _ => none }
def FnPlainHighWrongFalsely : Prop := fnPlainHighRow.holds Try.pinned (OpenSpec.ofChange fnPlainHighWrong)

/-- 'laws.FnExactHoldsVirtual': WHATEVER THE INPUT: true; the input reads as it did. -/
def fnExactHoldsVirtualSpec : ChangeSpec := { name := "fnExactHoldsVirtual", fn := fun _ => fun
  | [d] => { results := [.lit (.bool true)], args := [d] }
  | _ => none }
def fnExactHoldsVirtualRow : OpenClaim := { program := "ytcdmegiffbhbeaa", sum := "116042f701291bc695dc6f1f6a09019360b71975ccae0ea431b45838f6f8d2b9", func := "loop.example/dualmodes/laws.FnExactHoldsVirtual", spec := "fnExactHoldsVirtual", apart := false }
def FnExactHoldsVirtualSaid : Prop := fnExactHoldsVirtualRow.holds Try.pinned (OpenSpec.ofChange fnExactHoldsVirtualSpec)

/-- ITS FALSE NEIGHBOUR: 'it returns false'. Refute it at one input. -/
def fnExactHoldsVirtualWrong : ChangeSpec := { name := "fnExactHoldsVirtual", fn := fun _ => fun
  | [d] => { results := [.lit (.bool false)], args := [d] }
  | _ => none }
def FnExactHoldsVirtualWrongFalsely : Prop := fnExactHoldsVirtualRow.holds Try.pinned (OpenSpec.ofChange fnExactHoldsVirtualWrong)

/-- 'laws.FnFactorExact': WHATEVER THE INPUT: true; the input reads as it did. -/
def fnFactorExactSpec : ChangeSpec := { name := "fnFactorExact", fn := fun _ => fun
  | [d] => { results := [.lit (.bool true)], args := [d] }
  | _ => none }
def fnFactorExactRow : OpenClaim := { program := "ytcdmegiffbhbeaa", sum := "116042f701291bc695dc6f1f6a09019360b71975ccae0ea431b45838f6f8d2b9", func := "loop.example/dualmodes/laws.FnFactorExact", spec := "fnFactorExact", apart := false }
def FnFactorExactSaid : Prop := fnFactorExactRow.holds Try.pinned (OpenSpec.ofChange fnFactorExactSpec)

/-- ITS FALSE NEIGHBOUR: 'it returns false'. Refute it at one input. -/
def fnFactorExactWrong : ChangeSpec := { name := "fnFactorExact", fn := fun _ => fun
  | [d] => { results := [.lit (.bool false)], args := [d] }
  | _ => none }
def FnFactorExactWrongFalsely : Prop := fnFactorExactRow.holds Try.pinned (OpenSpec.ofChange fnFactorExactWrong)

/-- 'laws.FnHoldsPlain': WHATEVER THE INPUT: true; the input reads as it did. -/
def fnHoldsPlainSpec : ChangeSpec := { name := "fnHoldsPlain", fn := fun _ => fun
  | [d] => { results := [.lit (.bool true)], args := [d] }
  | _ => none }
def fnHoldsPlainRow : OpenClaim := { program := "ytcdmegiffbhbeaa", sum := "116042f701291bc695dc6f1f6a09019360b71975ccae0ea431b45838f6f8d2b9", func := "loop.example/dualmodes/laws.FnHoldsPlain", spec := "fnHoldsPlain", apart := false }
def FnHoldsPlainSaid : Prop := fnHoldsPlainRow.holds Try.pinned (OpenSpec.ofChange fnHoldsPlainSpec)

/-- ITS FALSE NEIGHBOUR: 'it returns false'. Refute it at one input. -/
def fnHoldsPlainWrong : ChangeSpec := { name := "fnHoldsPlain", fn := fun _ => fun
  | [d] => { results := [.lit (.bool false)], args := [d] }
  | _ => none }
def FnHoldsPlainWrongFalsely : Prop := fnHoldsPlainRow.holds Try.pinned (OpenSpec.ofChange fnHoldsPlainWrong)

/-- 'laws.FnLoadParts': WHATEVER THE INPUT: true; the input reads as it did. -/
def fnLoadPartsSpec : ChangeSpec := { name := "fnLoadParts", fn := fun _ => fun
  | [d] => { results := [.lit (.bool true)], args := [d] }
  | _ => none }
def fnLoadPartsRow : OpenClaim := { program := "ytcdmegiffbhbeaa", sum := "116042f701291bc695dc6f1f6a09019360b71975ccae0ea431b45838f6f8d2b9", func := "loop.example/dualmodes/laws.FnLoadParts", spec := "fnLoadParts", apart := false }
def FnLoadPartsSaid : Prop := fnLoadPartsRow.holds Try.pinned (OpenSpec.ofChange fnLoadPartsSpec)

/-- ITS FALSE NEIGHBOUR: 'it returns false'. Refute it at one input. -/
def fnLoadPartsWrong : ChangeSpec := { name := "fnLoadParts", fn := fun _ => fun
  | [d] => { results := [.lit (.bool false)], args := [d] }
  | _ => none }
def FnLoadPartsWrongFalsely : Prop := fnLoadPartsRow.holds Try.pinned (OpenSpec.ofChange fnLoadPartsWrong)

/- THE SECOND FORM. 'bulk': how many values and letters a reading holds, each counted each time it is reached (what is shared counts as often as it is met; a slice's spare places count too). A statement '..UptoSaid' is the law's where the arguments, and the package variables that the reading takes, are together of bulk at most 1048576: NARROWER than '..Said'. Prove '..Said' where nothing that the law and all that it calls make is longer than what came in: it says more and counts as full. Else prove '..UptoSaid'. A law counts once. -/
mutual
def uptoBulk {H : Type} : DataW H → Nat
  | .lit (.string bytes) => bytes.length + 1
  | .lit _ => 1
  | .nil => 1
  | .ptr d => uptoBulk d + 1
  | .slice elems spare => uptoBulkAll elems + uptoBulkAll spare + 1
  | .agg parts => uptoBulkAll parts + 1
  | .iface _ d => uptoBulk d + 1
  | .map entries => uptoBulkEntries entries + 1
  | .held _ => 1
def uptoBulkAll {H : Type} : List (DataW H) → Nat
  | [] => 0
  | d :: r => uptoBulk d + uptoBulkAll r
def uptoBulkEntries {H : Type} : List (Lit × DataW H) → Nat
  | [] => 0
  | x :: r => uptoBulkEntry x + uptoBulkEntries r
def uptoBulkEntry {H : Type} : Lit × DataW H → Nat
  | (.string bytes, d) => bytes.length + uptoBulk d + 1
  | (_, d) => uptoBulk d + 1
 end
def uptoSmall : (H : Type) → List (DataW H) → Bool := fun _ ds => decide (uptoBulkAll ds ≤ 1048576)
def OpenSpec.upto (s : _root_.Go.ChangeSpec) : _root_.Go.OpenSpec := { _root_.Go.OpenSpec.ofChange s with cond := some uptoSmall }

/-- 'laws.FnImplicit', WHERE WHAT IT READS IS OF BULK AT MOST 1048576: true; the input reads as it did. -/
def fnImplicitUptoRow : OpenClaim := { program := "ytcdmegiffbhbeaa", sum := "116042f701291bc695dc6f1f6a09019360b71975ccae0ea431b45838f6f8d2b9", func := "loop.example/dualmodes/laws.FnImplicit", spec := "fnImplicit", apart := false, narrowed := true }
def FnImplicitUptoSaid : Prop := fnImplicitUptoRow.holds Try.pinned (OpenSpec.upto fnImplicitSpec)

/-- 'laws.FnVirtualOne', WHERE WHAT IT READS IS OF BULK AT MOST 1048576: true; the input reads as it did. -/
def fnVirtualOneUptoRow : OpenClaim := { program := "ytcdmegiffbhbeaa", sum := "116042f701291bc695dc6f1f6a09019360b71975ccae0ea431b45838f6f8d2b9", func := "loop.example/dualmodes/laws.FnVirtualOne", spec := "fnVirtualOne", apart := false, narrowed := true }
def FnVirtualOneUptoSaid : Prop := fnVirtualOneUptoRow.holds Try.pinned (OpenSpec.upto fnVirtualOneSpec)

/-- 'laws.FnExactHoldsPlain', WHERE WHAT IT READS IS OF BULK AT MOST 1048576: true; the input reads as it did. -/
def fnExactHoldsPlainUptoRow : OpenClaim := { program := "ytcdmegiffbhbeaa", sum := "116042f701291bc695dc6f1f6a09019360b71975ccae0ea431b45838f6f8d2b9", func := "loop.example/dualmodes/laws.FnExactHoldsPlain", spec := "fnExactHoldsPlain", apart := false, narrowed := true }
def FnExactHoldsPlainUptoSaid : Prop := fnExactHoldsPlainUptoRow.holds Try.pinned (OpenSpec.upto fnExactHoldsPlainSpec)

/-- 'laws.FnExactLoadOf', WHERE WHAT IT READS IS OF BULK AT MOST 1048576: true; the input reads as it did. -/
def fnExactLoadOfUptoRow : OpenClaim := { program := "ytcdmegiffbhbeaa", sum := "116042f701291bc695dc6f1f6a09019360b71975ccae0ea431b45838f6f8d2b9", func := "loop.example/dualmodes/laws.FnExactLoadOf", spec := "fnExactLoadOf", apart := false, narrowed := true }
def FnExactLoadOfUptoSaid : Prop := fnExactLoadOfUptoRow.holds Try.pinned (OpenSpec.upto fnExactLoadOfSpec)

/-- 'laws.FnExactFactorOf', WHERE WHAT IT READS IS OF BULK AT MOST 1048576: true; the input reads as it did. -/
def fnExactFactorOfUptoRow : OpenClaim := { program := "ytcdmegiffbhbeaa", sum := "116042f701291bc695dc6f1f6a09019360b71975ccae0ea431b45838f6f8d2b9", func := "loop.example/dualmodes/laws.FnExactFactorOf", spec := "fnExactFactorOf", apart := false, narrowed := true }
def FnExactFactorOfUptoSaid : Prop := fnExactFactorOfUptoRow.holds Try.pinned (OpenSpec.upto fnExactFactorOfSpec)

/-- 'laws.FnLoadHigh', WHERE WHAT IT READS IS OF BULK AT MOST 1048576: true; the input reads as it did. -/
def fnLoadHighUptoRow : OpenClaim := { program := "ytcdmegiffbhbeaa", sum := "116042f701291bc695dc6f1f6a09019360b71975ccae0ea431b45838f6f8d2b9", func := "loop.example/dualmodes/laws.FnLoadHigh", spec := "fnLoadHigh", apart := false, narrowed := true }
def FnLoadHighUptoSaid : Prop := fnLoadHighUptoRow.holds Try.pinned (OpenSpec.upto fnLoadHighSpec)

/-- 'laws.FnPlainFactor', WHERE WHAT IT READS IS OF BULK AT MOST 1048576: true; the input reads as it did. -/
def fnPlainFactorUptoRow : OpenClaim := { program := "ytcdmegiffbhbeaa", sum := "116042f701291bc695dc6f1f6a09019360b71975ccae0ea431b45838f6f8d2b9", func := "loop.example/dualmodes/laws.FnPlainFactor", spec := "fnPlainFactor", apart := false, narrowed := true }
def FnPlainFactorUptoSaid : Prop := fnPlainFactorUptoRow.holds Try.pinned (OpenSpec.upto fnPlainFactorSpec)

/-- 'laws.FnPlainHigh', WHERE WHAT IT READS IS OF BULK AT MOST 1048576: true; the input reads as it did. -/
def fnPlainHighUptoRow : OpenClaim := { program := "ytcdmegiffbhbeaa", sum := "116042f701291bc695dc6f1f6a09019360b71975ccae0ea431b45838f6f8d2b9", func := "loop.example/dualmodes/laws.FnPlainHigh", spec := "fnPlainHigh", apart := false, narrowed := true }
def FnPlainHighUptoSaid : Prop := fnPlainHighUptoRow.holds Try.pinned (OpenSpec.upto fnPlainHighSpec)

/-- 'laws.FnExactHoldsVirtual', WHERE WHAT IT READS IS OF BULK AT MOST 1048576: true; the input reads as it did. -/
def fnExactHoldsVirtualUptoRow : OpenClaim := { program := "ytcdmegiffbhbeaa", sum := "116042f701291bc695dc6f1f6a09019360b71975ccae0ea431b45838f6f8d2b9", func := "loop.example/dualmodes/laws.FnExactHoldsVirtual", spec := "fnExactHoldsVirtual", apart := false, narrowed := true }
def FnExactHoldsVirtualUptoSaid : Prop := fnExactHoldsVirtualUptoRow.holds Try.pinned (OpenSpec.upto fnExactHoldsVirtualSpec)

/-- 'laws.FnFactorExact', WHERE WHAT IT READS IS OF BULK AT MOST 1048576: true; the input reads as it did. -/
def fnFactorExactUptoRow : OpenClaim := { program := "ytcdmegiffbhbeaa", sum := "116042f701291bc695dc6f1f6a09019360b71975ccae0ea431b45838f6f8d2b9", func := "loop.example/dualmodes/laws.FnFactorExact", spec := "fnFactorExact", apart := false, narrowed := true }
def FnFactorExactUptoSaid : Prop := fnFactorExactUptoRow.holds Try.pinned (OpenSpec.upto fnFactorExactSpec)

/-- 'laws.FnHoldsPlain', WHERE WHAT IT READS IS OF BULK AT MOST 1048576: true; the input reads as it did. -/
def fnHoldsPlainUptoRow : OpenClaim := { program := "ytcdmegiffbhbeaa", sum := "116042f701291bc695dc6f1f6a09019360b71975ccae0ea431b45838f6f8d2b9", func := "loop.example/dualmodes/laws.FnHoldsPlain", spec := "fnHoldsPlain", apart := false, narrowed := true }
def FnHoldsPlainUptoSaid : Prop := fnHoldsPlainUptoRow.holds Try.pinned (OpenSpec.upto fnHoldsPlainSpec)

/-- 'laws.FnLoadParts', WHERE WHAT IT READS IS OF BULK AT MOST 1048576: true; the input reads as it did. -/
def fnLoadPartsUptoRow : OpenClaim := { program := "ytcdmegiffbhbeaa", sum := "116042f701291bc695dc6f1f6a09019360b71975ccae0ea431b45838f6f8d2b9", func := "loop.example/dualmodes/laws.FnLoadParts", spec := "fnLoadParts", apart := false, narrowed := true }
def FnLoadPartsUptoSaid : Prop := fnLoadPartsUptoRow.holds Try.pinned (OpenSpec.upto fnLoadPartsSpec)

end Rows
end Go.Proofs.Ytcdmegiffbhbeaa
