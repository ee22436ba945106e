/-
  No cell of these rows narrows 'for every input' (looked for: loops, veiled, ifaces, maps, wideKeys, modest, calm, conditions, laid).
  DERIVED. THE GIVEN ROWS OF THIS SEAT. 10 by the template 'for every input the law returns true; each argument reads behind the call as it read before'; 0 by the template 'total and deterministic' (their statements: YtdafioafbgkilaaTotals.lean).
  GIVEN WITH THE SEED: the statements are not yours to turn. If you find one false, say at which input.
  Laid BY PROGRAM, IN A SANDBOX (cutbox-rows.mjs): the forced cells as the released guide's own fill.sh prints them over the translation e12250d3233e5f8e… (all of the seat's roots in one cut). By AI agents, Wed Nov 11 2026. No macro, syntax, notation, axiom, sorry.
-/
import Derived.Test.YtdafioafbgkilaaChecked
import GoSem.Claim
import GoSem.ClaimJoined
import GoSem.ClaimMapViews
import Derived.JoinedTies
import Derived.KernelRfl
namespace Go.Proofs.Ytdafioafbgkilaa
/- THE CELL 'sum', in the pinned program and in every row, IS THE sha256 OF THE DUMP (.gsa) THAT YtdafioafbgkilaaProg.lean LOADS. Nothing in Lean hashes anything: it is a label: what it is worth is what the hold of that sum in a sandbox is worth. -/
noncomputable def Try.pinned : Pinned := { name := "ytdafioafbgkilaa", sum := "e12250d3233e5f8ec5026d09ad582f1ef50ad6aac30b2d0261a6ce71f778545c", checked := Try.checked }
namespace Rows
def none {H : Type} : Left H := { results := [], args := [] }

/-- 'laws.FnVirtualSort': WHATEVER THE INPUT: true; the input reads as it did. -/
def fnVirtualSortSpec : ChangeSpec := { name := "fnVirtualSort", fn := fun _ => fun
  | [d] => { results := [.lit (.bool true)], args := [d] }
  | _ => none }
def fnVirtualSortRow : OpenClaim := { program := "ytdafioafbgkilaa", sum := "e12250d3233e5f8ec5026d09ad582f1ef50ad6aac30b2d0261a6ce71f778545c", func := "loop.example/dualmodes/laws.FnVirtualSort", spec := "fnVirtualSort", unfollowed := true, recurses := true, apart := false }
def FnVirtualSortSaid : Prop := fnVirtualSortRow.holds Try.pinned (OpenSpec.ofChange fnVirtualSortSpec)

/-- ITS FALSE NEIGHBOUR: 'it returns false'. Refute it at one input. -/
def fnVirtualSortWrong : ChangeSpec := { name := "fnVirtualSort", fn := fun _ => fun
  | [d] => { results := [.lit (.bool false)], args := [d] }
  | _ => none }
def FnVirtualSortWrongFalsely : Prop := fnVirtualSortRow.holds Try.pinned (OpenSpec.ofChange fnVirtualSortWrong)

/-- 'laws.FnExactVirtualDue': WHATEVER THE INPUT: true; the input reads as it did. -/
def fnExactVirtualDueSpec : ChangeSpec := { name := "fnExactVirtualDue", fn := fun _ => fun
  | [d1, d2] => { results := [.lit (.bool true)], args := [d1, d2] }
  | _ => none }
def fnExactVirtualDueRow : OpenClaim := { program := "ytdafioafbgkilaa", sum := "e12250d3233e5f8ec5026d09ad582f1ef50ad6aac30b2d0261a6ce71f778545c", func := "loop.example/dualmodes/laws.FnExactVirtualDue", spec := "fnExactVirtualDue", apart := false }
def FnExactVirtualDueSaid : Prop := fnExactVirtualDueRow.holds Try.pinned (OpenSpec.ofChange fnExactVirtualDueSpec)

/-- ITS FALSE NEIGHBOUR: 'it returns false'. Refute it at one input. -/
def fnExactVirtualDueWrong : ChangeSpec := { name := "fnExactVirtualDue", fn := fun _ => fun
  | [d1, d2] => { results := [.lit (.bool false)], args := [d1, d2] }
  | _ => none }
def FnExactVirtualDueWrongFalsely : Prop := fnExactVirtualDueRow.holds Try.pinned (OpenSpec.ofChange fnExactVirtualDueWrong)

/-- 'laws.FnLoadOf': WHATEVER THE INPUT: true; the input reads as it did. -/
def fnLoadOfSpec : ChangeSpec := { name := "fnLoadOf", fn := fun _ => fun
  | [d] => { results := [.lit (.bool true)], args := [d] }
  | _ => none }
def fnLoadOfRow : OpenClaim := { program := "ytdafioafbgkilaa", sum := "e12250d3233e5f8ec5026d09ad582f1ef50ad6aac30b2d0261a6ce71f778545c", func := "loop.example/dualmodes/laws.FnLoadOf", spec := "fnLoadOf", apart := false }
def FnLoadOfSaid : Prop := fnLoadOfRow.holds Try.pinned (OpenSpec.ofChange fnLoadOfSpec)

/-- ITS FALSE NEIGHBOUR: 'it returns false'. Refute it at one input. -/
def fnLoadOfWrong : ChangeSpec := { name := "fnLoadOf", fn := fun _ => fun
  | [d] => { results := [.lit (.bool false)], args := [d] }
  | _ => none }
def FnLoadOfWrongFalsely : Prop := fnLoadOfRow.holds Try.pinned (OpenSpec.ofChange fnLoadOfWrong)

/-- 'laws.FnFactorLow': WHATEVER THE INPUT: true; the input reads as it did. -/
def fnFactorLowSpec : ChangeSpec := { name := "fnFactorLow", fn := fun _ => fun
  | [d] => { results := [.lit (.bool true)], args := [d] }
  | _ => none }
def fnFactorLowRow : OpenClaim := { program := "ytdafioafbgkilaa", sum := "e12250d3233e5f8ec5026d09ad582f1ef50ad6aac30b2d0261a6ce71f778545c", func := "loop.example/dualmodes/laws.FnFactorLow", spec := "fnFactorLow", apart := false }
def FnFactorLowSaid : Prop := fnFactorLowRow.holds Try.pinned (OpenSpec.ofChange fnFactorLowSpec)

/-- ITS FALSE NEIGHBOUR: 'it returns false'. Refute it at one input. -/
def fnFactorLowWrong : ChangeSpec := { name := "fnFactorLow", fn := fun _ => fun
  | [d] => { results := [.lit (.bool false)], args := [d] }
  | _ => none }
def FnFactorLowWrongFalsely : Prop := fnFactorLowRow.holds Try.pinned (OpenSpec.ofChange fnFactorLowWrong)

/-- 'laws.FnImplicitPart': WHATEVER THE INPUT: true; the input reads as it did. -/
def fnImplicitPartSpec : ChangeSpec := { name := "fnImplicitPart", fn := fun _ => fun
  | [d] => { results := [.lit (.bool true)], args := [d] }
  | _ => none }
def fnImplicitPartRow : OpenClaim := { program := "ytdafioafbgkilaa", sum := "e12250d3233e5f8ec5026d09ad582f1ef50ad6aac30b2d0261a6ce71f778545c", func := "loop.example/dualmodes/laws.FnImplicitPart", spec := "fnImplicitPart", unfollowed := true, recurses := true, apart := false }
def FnImplicitPartSaid : Prop := fnImplicitPartRow.holds Try.pinned (OpenSpec.ofChange fnImplicitPartSpec)

/-- ITS FALSE NEIGHBOUR: 'it returns false'. Refute it at one input. -/
def fnImplicitPartWrong : ChangeSpec := { name := "fnImplicitPart", fn := fun _ => fun
  | [d] => { results := [.lit (.bool false)], args := [d] }
  | _ => none }
def FnImplicitPartWrongFalsely : Prop := fnImplicitPartRow.holds Try.pinned (OpenSpec.ofChange fnImplicitPartWrong)

/-- 'laws.FnFactorOf': WHATEVER THE INPUT: true; the input reads as it did. -/
def fnFactorOfSpec : ChangeSpec := { name := "fnFactorOf", fn := fun _ => fun
  | [d] => { results := [.lit (.bool true)], args := [d] }
  | _ => none }
def fnFactorOfRow : OpenClaim := { program := "ytdafioafbgkilaa", sum := "e12250d3233e5f8ec5026d09ad582f1ef50ad6aac30b2d0261a6ce71f778545c", func := "loop.example/dualmodes/laws.FnFactorOf", spec := "fnFactorOf", apart := false }
def FnFactorOfSaid : Prop := fnFactorOfRow.holds Try.pinned (OpenSpec.ofChange fnFactorOfSpec)

/-- ITS FALSE NEIGHBOUR: 'it returns false'. Refute it at one input. -/
def fnFactorOfWrong : ChangeSpec := { name := "fnFactorOf", fn := fun _ => fun
  | [d] => { results := [.lit (.bool false)], args := [d] }
  | _ => none }
def FnFactorOfWrongFalsely : Prop := fnFactorOfRow.holds Try.pinned (OpenSpec.ofChange fnFactorOfWrong)

/-- 'laws.FnVirtualDue': WHATEVER THE INPUT: true; the input reads as it did. -/
def fnVirtualDueSpec : ChangeSpec := { name := "fnVirtualDue", fn := fun _ => fun
  | [d] => { results := [.lit (.bool true)], args := [d] }
  | _ => none }
def fnVirtualDueRow : OpenClaim := { program := "ytdafioafbgkilaa", sum := "e12250d3233e5f8ec5026d09ad582f1ef50ad6aac30b2d0261a6ce71f778545c", func := "loop.example/dualmodes/laws.FnVirtualDue", spec := "fnVirtualDue", apart := false }
def FnVirtualDueSaid : Prop := fnVirtualDueRow.holds Try.pinned (OpenSpec.ofChange fnVirtualDueSpec)

/-- ITS FALSE NEIGHBOUR: 'it returns false'. Refute it at one input. -/
def fnVirtualDueWrong : ChangeSpec := { name := "fnVirtualDue", fn := fun _ => fun
  | [d] => { results := [.lit (.bool false)], args := [d] }
  | _ => none }
def FnVirtualDueWrongFalsely : Prop := fnVirtualDueRow.holds Try.pinned (OpenSpec.ofChange fnVirtualDueWrong)

/-- 'laws.FnVirtualOrder': WHATEVER THE INPUT: true; the input reads as it did. -/
def fnVirtualOrderSpec : ChangeSpec := { name := "fnVirtualOrder", fn := fun _ => fun
  | [d] => { results := [.lit (.bool true)], args := [d] }
  | _ => none }
def fnVirtualOrderRow : OpenClaim := { program := "ytdafioafbgkilaa", sum := "e12250d3233e5f8ec5026d09ad582f1ef50ad6aac30b2d0261a6ce71f778545c", func := "loop.example/dualmodes/laws.FnVirtualOrder", spec := "fnVirtualOrder", apart := false }
def FnVirtualOrderSaid : Prop := fnVirtualOrderRow.holds Try.pinned (OpenSpec.ofChange fnVirtualOrderSpec)

/-- ITS FALSE NEIGHBOUR: 'it returns false'. Refute it at one input. -/
def fnVirtualOrderWrong : ChangeSpec := { name := "fnVirtualOrder", fn := fun _ => fun
  | [d] => { results := [.lit (.bool false)], args := [d] }
  | _ => none }
def FnVirtualOrderWrongFalsely : Prop := fnVirtualOrderRow.holds Try.pinned (OpenSpec.ofChange fnVirtualOrderWrong)

/-- 'laws.FnHoldsVirtual': WHATEVER THE INPUT: true; the input reads as it did. -/
def fnHoldsVirtualSpec : ChangeSpec := { name := "fnHoldsVirtual", fn := fun _ => fun
  | [d] => { results := [.lit (.bool true)], args := [d] }
  | _ => none }
def fnHoldsVirtualRow : OpenClaim := { program := "ytdafioafbgkilaa", sum := "e12250d3233e5f8ec5026d09ad582f1ef50ad6aac30b2d0261a6ce71f778545c", func := "loop.example/dualmodes/laws.FnHoldsVirtual", spec := "fnHoldsVirtual", apart := false }
def FnHoldsVirtualSaid : Prop := fnHoldsVirtualRow.holds Try.pinned (OpenSpec.ofChange fnHoldsVirtualSpec)

/-- ITS FALSE NEIGHBOUR: 'it returns false'. Refute it at one input. -/
def fnHoldsVirtualWrong : ChangeSpec := { name := "fnHoldsVirtual", fn := fun _ => fun
  | [d] => { results := [.lit (.bool false)], args := [d] }
  | _ => none }
def FnHoldsVirtualWrongFalsely : Prop := fnHoldsVirtualRow.holds Try.pinned (OpenSpec.ofChange fnHoldsVirtualWrong)

/-- 'laws.FnVirtualLow': WHATEVER THE INPUT: true; the input reads as it did. -/
def fnVirtualLowSpec : ChangeSpec := { name := "fnVirtualLow", fn := fun _ => fun
  | [d] => { results := [.lit (.bool true)], args := [d] }
  | _ => none }
def fnVirtualLowRow : OpenClaim := { program := "ytdafioafbgkilaa", sum := "e12250d3233e5f8ec5026d09ad582f1ef50ad6aac30b2d0261a6ce71f778545c", func := "loop.example/dualmodes/laws.FnVirtualLow", spec := "fnVirtualLow", apart := false }
def FnVirtualLowSaid : Prop := fnVirtualLowRow.holds Try.pinned (OpenSpec.ofChange fnVirtualLowSpec)

/-- ITS FALSE NEIGHBOUR: 'it returns false'. Refute it at one input. -/
def fnVirtualLowWrong : ChangeSpec := { name := "fnVirtualLow", fn := fun _ => fun
  | [d] => { results := [.lit (.bool false)], args := [d] }
  | _ => none }
def FnVirtualLowWrongFalsely : Prop := fnVirtualLowRow.holds Try.pinned (OpenSpec.ofChange fnVirtualLowWrong)

/- THE SECOND FORM. 'bulk': how many values and letters a reading holds, each counted each time it is reached (what is shared counts as often as it is met; a slice's spare places count too). A statement '..UptoSaid' is the law's where the arguments, and the package variables that the reading takes, are together of bulk at most 1048576: NARROWER than '..Said'. Prove '..Said' where nothing that the law and all that it calls make is longer than what came in: it says more and counts as full. Else prove '..UptoSaid'. A law counts once. -/
mutual
def uptoBulk {H : Type} : DataW H → Nat
  | .lit (.string bytes) => bytes.length + 1
  | .lit _ => 1
  | .nil => 1
  | .ptr d => uptoBulk d + 1
  | .slice elems spare => uptoBulkAll elems + uptoBulkAll spare + 1
  | .agg parts => uptoBulkAll parts + 1
  | .iface _ d => uptoBulk d + 1
  | .map entries => uptoBulkEntries entries + 1
  | .held _ => 1
def uptoBulkAll {H : Type} : List (DataW H) → Nat
  | [] => 0
  | d :: r => uptoBulk d + uptoBulkAll r
def uptoBulkEntries {H : Type} : List (Lit × DataW H) → Nat
  | [] => 0
  | x :: r => uptoBulkEntry x + uptoBulkEntries r
def uptoBulkEntry {H : Type} : Lit × DataW H → Nat
  | (.string bytes, d) => bytes.length + uptoBulk d + 1
  | (_, d) => uptoBulk d + 1
 end
def uptoSmall : (H : Type) → List (DataW H) → Bool := fun _ ds => decide (uptoBulkAll ds ≤ 1048576)
def OpenSpec.upto (s : _root_.Go.ChangeSpec) : _root_.Go.OpenSpec := { _root_.Go.OpenSpec.ofChange s with cond := some uptoSmall }

/-- 'laws.FnVirtualSort', WHERE WHAT IT READS IS OF BULK AT MOST 1048576: true; the input reads as it did. -/
def fnVirtualSortUptoRow : OpenClaim := { program := "ytdafioafbgkilaa", sum := "e12250d3233e5f8ec5026d09ad582f1ef50ad6aac30b2d0261a6ce71f778545c", func := "loop.example/dualmodes/laws.FnVirtualSort", spec := "fnVirtualSort", unfollowed := true, recurses := true, apart := false, narrowed := true }
def FnVirtualSortUptoSaid : Prop := fnVirtualSortUptoRow.holds Try.pinned (OpenSpec.upto fnVirtualSortSpec)

/-- 'laws.FnExactVirtualDue', WHERE WHAT IT READS IS OF BULK AT MOST 1048576: true; the input reads as it did. -/
def fnExactVirtualDueUptoRow : OpenClaim := { program := "ytdafioafbgkilaa", sum := "e12250d3233e5f8ec5026d09ad582f1ef50ad6aac30b2d0261a6ce71f778545c", func := "loop.example/dualmodes/laws.FnExactVirtualDue", spec := "fnExactVirtualDue", apart := false, narrowed := true }
def FnExactVirtualDueUptoSaid : Prop := fnExactVirtualDueUptoRow.holds Try.pinned (OpenSpec.upto fnExactVirtualDueSpec)

/-- 'laws.FnLoadOf', WHERE WHAT IT READS IS OF BULK AT MOST 1048576: true; the input reads as it did. -/
def fnLoadOfUptoRow : OpenClaim := { program := "ytdafioafbgkilaa", sum := "e12250d3233e5f8ec5026d09ad582f1ef50ad6aac30b2d0261a6ce71f778545c", func := "loop.example/dualmodes/laws.FnLoadOf", spec := "fnLoadOf", apart := false, narrowed := true }
def FnLoadOfUptoSaid : Prop := fnLoadOfUptoRow.holds Try.pinned (OpenSpec.upto fnLoadOfSpec)

/-- 'laws.FnFactorLow', WHERE WHAT IT READS IS OF BULK AT MOST 1048576: true; the input reads as it did. -/
def fnFactorLowUptoRow : OpenClaim := { program := "ytdafioafbgkilaa", sum := "e12250d3233e5f8ec5026d09ad582f1ef50ad6aac30b2d0261a6ce71f778545c", func := "loop.example/dualmodes/laws.FnFactorLow", spec := "fnFactorLow", apart := false, narrowed := true }
def FnFactorLowUptoSaid : Prop := fnFactorLowUptoRow.holds Try.pinned (OpenSpec.upto fnFactorLowSpec)

/-- 'laws.FnImplicitPart', WHERE WHAT IT READS IS OF BULK AT MOST 1048576: true; the input reads as it did. -/
def fnImplicitPartUptoRow : OpenClaim := { program := "ytdafioafbgkilaa", sum := "e12250d3233e5f8ec5026d09ad582f1ef50ad6aac30b2d0261a6ce71f778545c", func := "loop.example/dualmodes/laws.FnImplicitPart", spec := "fnImplicitPart", unfollowed := true, recurses := true, apart := false, narrowed := true }
def FnImplicitPartUptoSaid : Prop := fnImplicitPartUptoRow.holds Try.pinned (OpenSpec.upto fnImplicitPartSpec)

/-- 'laws.FnFactorOf', WHERE WHAT IT READS IS OF BULK AT MOST 1048576: true; the input reads as it did. -/
def fnFactorOfUptoRow : OpenClaim := { program := "ytdafioafbgkilaa", sum := "e12250d3233e5f8ec5026d09ad582f1ef50ad6aac30b2d0261a6ce71f778545c", func := "loop.example/dualmodes/laws.FnFactorOf", spec := "fnFactorOf", apart := false, narrowed := true }
def FnFactorOfUptoSaid : Prop := fnFactorOfUptoRow.holds Try.pinned (OpenSpec.upto fnFactorOfSpec)

/-- 'laws.FnVirtualDue', WHERE WHAT IT READS IS OF BULK AT MOST 1048576: true; the input reads as it did. -/
def fnVirtualDueUptoRow : OpenClaim := { program := "ytdafioafbgkilaa", sum := "e12250d3233e5f8ec5026d09ad582f1ef50ad6aac30b2d0261a6ce71f778545c", func := "loop.example/dualmodes/laws.FnVirtualDue", spec := "fnVirtualDue", apart := false, narrowed := true }
def FnVirtualDueUptoSaid : Prop := fnVirtualDueUptoRow.holds Try.pinned (OpenSpec.upto fnVirtualDueSpec)

/-- 'laws.FnVirtualOrder', WHERE WHAT IT READS IS OF BULK AT MOST 1048576: true; the input reads as it did. -/
def fnVirtualOrderUptoRow : OpenClaim := { program := "ytdafioafbgkilaa", sum := "e12250d3233e5f8ec5026d09ad582f1ef50ad6aac30b2d0261a6ce71f778545c", func := "loop.example/dualmodes/laws.FnVirtualOrder", spec := "fnVirtualOrder", apart := false, narrowed := true }
def FnVirtualOrderUptoSaid : Prop := fnVirtualOrderUptoRow.holds Try.pinned (OpenSpec.upto fnVirtualOrderSpec)

/-- 'laws.FnHoldsVirtual', WHERE WHAT IT READS IS OF BULK AT MOST 1048576: true; the input reads as it did. -/
def fnHoldsVirtualUptoRow : OpenClaim := { program := "ytdafioafbgkilaa", sum := "e12250d3233e5f8ec5026d09ad582f1ef50ad6aac30b2d0261a6ce71f778545c", func := "loop.example/dualmodes/laws.FnHoldsVirtual", spec := "fnHoldsVirtual", apart := false, narrowed := true }
def FnHoldsVirtualUptoSaid : Prop := fnHoldsVirtualUptoRow.holds Try.pinned (OpenSpec.upto fnHoldsVirtualSpec)

/-- 'laws.FnVirtualLow', WHERE WHAT IT READS IS OF BULK AT MOST 1048576: true; the input reads as it did. -/
def fnVirtualLowUptoRow : OpenClaim := { program := "ytdafioafbgkilaa", sum := "e12250d3233e5f8ec5026d09ad582f1ef50ad6aac30b2d0261a6ce71f778545c", func := "loop.example/dualmodes/laws.FnVirtualLow", spec := "fnVirtualLow", apart := false, narrowed := true }
def FnVirtualLowUptoSaid : Prop := fnVirtualLowUptoRow.holds Try.pinned (OpenSpec.upto fnVirtualLowSpec)

end Rows
end Go.Proofs.Ytdafioafbgkilaa
