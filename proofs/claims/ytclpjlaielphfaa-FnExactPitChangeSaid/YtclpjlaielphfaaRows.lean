/-
  No cell of these rows narrows 'for every input' (looked for: loops, veiled, ifaces, maps, wideKeys, modest, calm, conditions, laid).
  DERIVED. THE GIVEN ROWS OF THIS SEAT. 7 by the template 'for every input the law returns true; each argument reads behind the call as it read before'; 0 by the template 'total and deterministic' (their statements: YtclpjlaielphfaaTotals.lean).
  GIVEN WITH THE SEED: the statements are not yours to turn. If you find one false, say at which input.
  Laid BY PROGRAM, IN A SANDBOX (cutbox-rows.mjs): the forced cells as the released guide's own fill.sh prints them over the translation 5f1c3f3276e6a36b… (all of the seat's roots in one cut). By AI agents, Wed Nov 11 2026. No macro, syntax, notation, axiom, sorry.
-/
import Derived.Test.YtclpjlaielphfaaChecked
import GoSem.Claim
import GoSem.ClaimJoined
import GoSem.ClaimMapViews
import Derived.JoinedTies
import Derived.KernelRfl
namespace Go.Proofs.Ytclpjlaielphfaa
/- THE CELL 'sum', in the pinned program and in every row, IS THE sha256 OF THE DUMP (.gsa) THAT YtclpjlaielphfaaProg.lean LOADS. Nothing in Lean hashes anything: it is a label: what it is worth is what the hold of that sum in a sandbox is worth. -/
noncomputable def Try.pinned : Pinned := { name := "ytclpjlaielphfaa", sum := "5f1c3f3276e6a36b9bf8fdbe7fa4600acb3e28899eb645b607fb31a5cb57d335", checked := Try.checked }
namespace Rows
def none {H : Type} : Left H := { results := [], args := [] }

/-- 'laws.FnExactStepsTowards': WHATEVER THE INPUT: true; the input reads as it did. -/
def fnExactStepsTowardsSpec : ChangeSpec := { name := "fnExactStepsTowards", fn := fun _ => fun
  | [d1, d2, d3] => { results := [.lit (.bool true)], args := [d1, d2, d3] }
  | _ => none }
def fnExactStepsTowardsRow : OpenClaim := { program := "ytclpjlaielphfaa", sum := "5f1c3f3276e6a36b9bf8fdbe7fa4600acb3e28899eb645b607fb31a5cb57d335", func := "loop.example/g00914/laws.FnExactStepsTowards", spec := "fnExactStepsTowards", apart := false }
def FnExactStepsTowardsSaid : Prop := fnExactStepsTowardsRow.holds Try.pinned (OpenSpec.ofChange fnExactStepsTowardsSpec)

/-- ITS FALSE NEIGHBOUR: 'it returns false'. Refute it at one input. -/
def fnExactStepsTowardsWrong : ChangeSpec := { name := "fnExactStepsTowards", fn := fun _ => fun
  | [d1, d2, d3] => { results := [.lit (.bool false)], args := [d1, d2, d3] }
  | _ => none }
def FnExactStepsTowardsWrongFalsely : Prop := fnExactStepsTowardsRow.holds Try.pinned (OpenSpec.ofChange fnExactStepsTowardsWrong)

/-- 'laws.FnRows': WHATEVER THE INPUT: true; the input reads as it did. -/
def fnRowsSpec : ChangeSpec := { name := "fnRows", fn := fun _ => fun
  | [d1, d2] => { results := [.lit (.bool true)], args := [d1, d2] }
  | _ => none }
def fnRowsRow : OpenClaim := { program := "ytclpjlaielphfaa", sum := "5f1c3f3276e6a36b9bf8fdbe7fa4600acb3e28899eb645b607fb31a5cb57d335", func := "loop.example/g00914/laws.FnRows", spec := "fnRows", recurses := true, apart := false }
def FnRowsSaid : Prop := fnRowsRow.holds Try.pinned (OpenSpec.ofChange fnRowsSpec)

/-- ITS FALSE NEIGHBOUR: 'it returns false'. Refute it at one input. -/
def fnRowsWrong : ChangeSpec := { name := "fnRows", fn := fun _ => fun
  | [d1, d2] => { results := [.lit (.bool false)], args := [d1, d2] }
  | _ => none }
def FnRowsWrongFalsely : Prop := fnRowsRow.holds Try.pinned (OpenSpec.ofChange fnRowsWrong)

/-- 'laws.FnExactLeastDrop': WHATEVER THE INPUT: true; the input reads as it did. -/
def fnExactLeastDropSpec : ChangeSpec := { name := "fnExactLeastDrop", fn := fun _ => fun
  | [d1, d2, d3] => { results := [.lit (.bool true)], args := [d1, d2, d3] }
  | _ => none }
def fnExactLeastDropRow : OpenClaim := { program := "ytclpjlaielphfaa", sum := "5f1c3f3276e6a36b9bf8fdbe7fa4600acb3e28899eb645b607fb31a5cb57d335", func := "loop.example/g00914/laws.FnExactLeastDrop", spec := "fnExactLeastDrop", recurses := true, apart := false }
def FnExactLeastDropSaid : Prop := fnExactLeastDropRow.holds Try.pinned (OpenSpec.ofChange fnExactLeastDropSpec)

/-- ITS FALSE NEIGHBOUR: 'it returns false'. Refute it at one input. -/
def fnExactLeastDropWrong : ChangeSpec := { name := "fnExactLeastDrop", fn := fun _ => fun
  | [d1, d2, d3] => { results := [.lit (.bool false)], args := [d1, d2, d3] }
  | _ => none }
def FnExactLeastDropWrongFalsely : Prop := fnExactLeastDropRow.holds Try.pinned (OpenSpec.ofChange fnExactLeastDropWrong)

/-- 'laws.FnExactLeastRaise': WHATEVER THE INPUT: true; the input reads as it did. -/
def fnExactLeastRaiseSpec : ChangeSpec := { name := "fnExactLeastRaise", fn := fun _ => fun
  | [d1, d2, d3] => { results := [.lit (.bool true)], args := [d1, d2, d3] }
  | _ => none }
def fnExactLeastRaiseRow : OpenClaim := { program := "ytclpjlaielphfaa", sum := "5f1c3f3276e6a36b9bf8fdbe7fa4600acb3e28899eb645b607fb31a5cb57d335", func := "loop.example/g00914/laws.FnExactLeastRaise", spec := "fnExactLeastRaise", recurses := true, apart := false }
def FnExactLeastRaiseSaid : Prop := fnExactLeastRaiseRow.holds Try.pinned (OpenSpec.ofChange fnExactLeastRaiseSpec)

/-- ITS FALSE NEIGHBOUR: 'it returns false'. Refute it at one input. -/
def fnExactLeastRaiseWrong : ChangeSpec := { name := "fnExactLeastRaise", fn := fun _ => fun
  | [d1, d2, d3] => { results := [.lit (.bool false)], args := [d1, d2, d3] }
  | _ => none }
def FnExactLeastRaiseWrongFalsely : Prop := fnExactLeastRaiseRow.holds Try.pinned (OpenSpec.ofChange fnExactLeastRaiseWrong)

/-- 'laws.FnExactGainOf': WHATEVER THE INPUT: true; the input reads as it did. -/
def fnExactGainOfSpec : ChangeSpec := { name := "fnExactGainOf", fn := fun _ => fun
  | [d1, d2, d3] => { results := [.lit (.bool true)], args := [d1, d2, d3] }
  | _ => none }
def fnExactGainOfRow : OpenClaim := { program := "ytclpjlaielphfaa", sum := "5f1c3f3276e6a36b9bf8fdbe7fa4600acb3e28899eb645b607fb31a5cb57d335", func := "loop.example/g00914/laws.FnExactGainOf", spec := "fnExactGainOf", recurses := true, apart := false }
def FnExactGainOfSaid : Prop := fnExactGainOfRow.holds Try.pinned (OpenSpec.ofChange fnExactGainOfSpec)

/-- ITS FALSE NEIGHBOUR: 'it returns false'. Refute it at one input. -/
def fnExactGainOfWrong : ChangeSpec := { name := "fnExactGainOf", fn := fun _ => fun
  | [d1, d2, d3] => { results := [.lit (.bool false)], args := [d1, d2, d3] }
  | _ => none }
def FnExactGainOfWrongFalsely : Prop := fnExactGainOfRow.holds Try.pinned (OpenSpec.ofChange fnExactGainOfWrong)

/-- 'laws.FnExactPitAfter': WHATEVER THE INPUT: true; the input reads as it did. -/
def fnExactPitAfterSpec : ChangeSpec := { name := "fnExactPitAfter", fn := fun _ => fun
  | [d1, d2, d3] => { results := [.lit (.bool true)], args := [d1, d2, d3] }
  | _ => none }
def fnExactPitAfterRow : OpenClaim := { program := "ytclpjlaielphfaa", sum := "5f1c3f3276e6a36b9bf8fdbe7fa4600acb3e28899eb645b607fb31a5cb57d335", func := "loop.example/g00914/laws.FnExactPitAfter", spec := "fnExactPitAfter", recurses := true, apart := false }
def FnExactPitAfterSaid : Prop := fnExactPitAfterRow.holds Try.pinned (OpenSpec.ofChange fnExactPitAfterSpec)

/-- ITS FALSE NEIGHBOUR: 'it returns false'. Refute it at one input. -/
def fnExactPitAfterWrong : ChangeSpec := { name := "fnExactPitAfter", fn := fun _ => fun
  | [d1, d2, d3] => { results := [.lit (.bool false)], args := [d1, d2, d3] }
  | _ => none }
def FnExactPitAfterWrongFalsely : Prop := fnExactPitAfterRow.holds Try.pinned (OpenSpec.ofChange fnExactPitAfterWrong)

/-- 'laws.FnExactPitChange': WHATEVER THE INPUT: true; the input reads as it did. -/
def fnExactPitChangeSpec : ChangeSpec := { name := "fnExactPitChange", fn := fun _ => fun
  | [d1, d2, d3] => { results := [.lit (.bool true)], args := [d1, d2, d3] }
  | _ => none }
def fnExactPitChangeRow : OpenClaim := { program := "ytclpjlaielphfaa", sum := "5f1c3f3276e6a36b9bf8fdbe7fa4600acb3e28899eb645b607fb31a5cb57d335", func := "loop.example/g00914/laws.FnExactPitChange", spec := "fnExactPitChange", recurses := true, apart := false }
def FnExactPitChangeSaid : Prop := fnExactPitChangeRow.holds Try.pinned (OpenSpec.ofChange fnExactPitChangeSpec)

/-- ITS FALSE NEIGHBOUR: 'it returns false'. Refute it at one input. -/
def fnExactPitChangeWrong : ChangeSpec := { name := "fnExactPitChange", fn := fun _ => fun
  | [d1, d2, d3] => { results := [.lit (.bool false)], args := [d1, d2, d3] }
  | _ => none }
def FnExactPitChangeWrongFalsely : Prop := fnExactPitChangeRow.holds Try.pinned (OpenSpec.ofChange fnExactPitChangeWrong)

/- THE SECOND FORM. 'bulk': how many values and letters a reading holds, each counted each time it is reached (what is shared counts as often as it is met; a slice's spare places count too). A statement '..UptoSaid' is the law's where the arguments, and the package variables that the reading takes, are together of bulk at most 1048576: NARROWER than '..Said'. Prove '..Said' where nothing that the law and all that it calls make is longer than what came in: it says more and counts as full. Else prove '..UptoSaid'. A law counts once. -/
mutual
def uptoBulk {H : Type} : DataW H → Nat
  | .lit (.string bytes) => bytes.length + 1
  | .lit _ => 1
  | .nil => 1
  | .ptr d => uptoBulk d + 1
  | .slice elems spare => uptoBulkAll elems + uptoBulkAll spare + 1
  | .agg parts => uptoBulkAll parts + 1
  | .iface _ d => uptoBulk d + 1
  | .map entries => uptoBulkEntries entries + 1
  | .held _ => 1
def uptoBulkAll {H : Type} : List (DataW H) → Nat
  | [] => 0
  | d :: r => uptoBulk d + uptoBulkAll r
def uptoBulkEntries {H : Type} : List (Lit × DataW H) → Nat
  | [] => 0
  | x :: r => uptoBulkEntry x + uptoBulkEntries r
def uptoBulkEntry {H : Type} : Lit × DataW H → Nat
  | (.string bytes, d) => bytes.length + uptoBulk d + 1
  | (_, d) => uptoBulk d + 1
 end
def uptoSmall : (H : Type) → List (DataW H) → Bool := fun _ ds => decide (uptoBulkAll ds ≤ 1048576)
def OpenSpec.upto (s : _root_.Go.ChangeSpec) : _root_.Go.OpenSpec := { _root_.Go.OpenSpec.ofChange s with cond := some uptoSmall }

/-- 'laws.FnExactStepsTowards', WHERE WHAT IT READS IS OF BULK AT MOST 1048576: true; the input reads as it did. -/
def fnExactStepsTowardsUptoRow : OpenClaim := { program := "ytclpjlaielphfaa", sum := "5f1c3f3276e6a36b9bf8fdbe7fa4600acb3e28899eb645b607fb31a5cb57d335", func := "loop.example/g00914/laws.FnExactStepsTowards", spec := "fnExactStepsTowards", apart := false, narrowed := true }
def FnExactStepsTowardsUptoSaid : Prop := fnExactStepsTowardsUptoRow.holds Try.pinned (OpenSpec.upto fnExactStepsTowardsSpec)

/-- 'laws.FnRows', WHERE WHAT IT READS IS OF BULK AT MOST 1048576: true; the input reads as it did. -/
def fnRowsUptoRow : OpenClaim := { program := "ytclpjlaielphfaa", sum := "5f1c3f3276e6a36b9bf8fdbe7fa4600acb3e28899eb645b607fb31a5cb57d335", func := "loop.example/g00914/laws.FnRows", spec := "fnRows", recurses := true, apart := false, narrowed := true }
def FnRowsUptoSaid : Prop := fnRowsUptoRow.holds Try.pinned (OpenSpec.upto fnRowsSpec)

/-- 'laws.FnExactLeastDrop', WHERE WHAT IT READS IS OF BULK AT MOST 1048576: true; the input reads as it did. -/
def fnExactLeastDropUptoRow : OpenClaim := { program := "ytclpjlaielphfaa", sum := "5f1c3f3276e6a36b9bf8fdbe7fa4600acb3e28899eb645b607fb31a5cb57d335", func := "loop.example/g00914/laws.FnExactLeastDrop", spec := "fnExactLeastDrop", recurses := true, apart := false, narrowed := true }
def FnExactLeastDropUptoSaid : Prop := fnExactLeastDropUptoRow.holds Try.pinned (OpenSpec.upto fnExactLeastDropSpec)

/-- 'laws.FnExactLeastRaise', WHERE WHAT IT READS IS OF BULK AT MOST 1048576: true; the input reads as it did. -/
def fnExactLeastRaiseUptoRow : OpenClaim := { program := "ytclpjlaielphfaa", sum := "5f1c3f3276e6a36b9bf8fdbe7fa4600acb3e28899eb645b607fb31a5cb57d335", func := "loop.example/g00914/laws.FnExactLeastRaise", spec := "fnExactLeastRaise", recurses := true, apart := false, narrowed := true }
def FnExactLeastRaiseUptoSaid : Prop := fnExactLeastRaiseUptoRow.holds Try.pinned (OpenSpec.upto fnExactLeastRaiseSpec)

/-- 'laws.FnExactGainOf', WHERE WHAT IT READS IS OF BULK AT MOST 1048576: true; the input reads as it did. -/
def fnExactGainOfUptoRow : OpenClaim := { program := "ytclpjlaielphfaa", sum := "5f1c3f3276e6a36b9bf8fdbe7fa4600acb3e28899eb645b607fb31a5cb57d335", func := "loop.example/g00914/laws.FnExactGainOf", spec := "fnExactGainOf", recurses := true, apart := false, narrowed := true }
def FnExactGainOfUptoSaid : Prop := fnExactGainOfUptoRow.holds Try.pinned (OpenSpec.upto fnExactGainOfSpec)

/-- 'laws.FnExactPitAfter', WHERE WHAT IT READS IS OF BULK AT MOST 1048576: true; the input reads as it did. -/
def fnExactPitAfterUptoRow : OpenClaim := { program := "ytclpjlaielphfaa", sum := "5f1c3f3276e6a36b9bf8fdbe7fa4600acb3e28899eb645b607fb31a5cb57d335", func := "loop.example/g00914/laws.FnExactPitAfter", spec := "fnExactPitAfter", recurses := true, apart := false, narrowed := true }
def FnExactPitAfterUptoSaid : Prop := fnExactPitAfterUptoRow.holds Try.pinned (OpenSpec.upto fnExactPitAfterSpec)

/-- 'laws.FnExactPitChange', WHERE WHAT IT READS IS OF BULK AT MOST 1048576: true; the input reads as it did. -/
def fnExactPitChangeUptoRow : OpenClaim := { program := "ytclpjlaielphfaa", sum := "5f1c3f3276e6a36b9bf8fdbe7fa4600acb3e28899eb645b607fb31a5cb57d335", func := "loop.example/g00914/laws.FnExactPitChange", spec := "fnExactPitChange", recurses := true, apart := false, narrowed := true }
def FnExactPitChangeUptoSaid : Prop := fnExactPitChangeUptoRow.holds Try.pinned (OpenSpec.upto fnExactPitChangeSpec)

end Rows
end Go.Proofs.Ytclpjlaielphfaa
