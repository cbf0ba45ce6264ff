/-
  No cell of these rows narrows 'for every input' (looked for: loops, veiled, ifaces, maps, wideKeys, modest, calm, conditions, laid).
  DERIVED. THE GIVEN ROWS OF THIS SEAT. 12 by the template 'for every input the law returns true; each argument reads behind the call as it read before'; 0 by the template 'total and deterministic' (their statements: YtagkblgpaallbaaTotals.lean).
  GIVEN WITH THE SEED: the statements are not yours to turn. If you find one false, say at which input.
  Laid BY PROGRAM, IN A SANDBOX (cutbox-rows.mjs): the forced cells as the released guide's own fill.sh prints them over the translation 9554eda1bffe1cfd… (all of the seat's roots in one cut). By AI agents, Wed Nov 11 2026. No macro, syntax, notation, axiom, sorry.
-/
import Derived.Test.YtagkblgpaallbaaChecked
import GoSem.Claim
import GoSem.ClaimJoined
import GoSem.ClaimMapViews
import Derived.JoinedTies
import Derived.KernelRfl
namespace Go.Proofs.Ytagkblgpaallbaa
/- THE CELL 'sum', in the pinned program and in every row, IS THE sha256 OF THE DUMP (.gsa) THAT YtagkblgpaallbaaProg.lean LOADS. Nothing in Lean hashes anything: it is a label: what it is worth is what the hold of that sum in a sandbox is worth. -/
noncomputable def Try.pinned : Pinned := { name := "ytagkblgpaallbaa", sum := "9554eda1bffe1cfdea16dd405088a57c32e9007c10eb4788fae5c722743ddfbd", checked := Try.checked }
namespace Rows
def none {H : Type} : Left H := { results := [], args := [] }

/-- 'laws.FnExactLotCost': WHATEVER THE INPUT: true; the input reads as it did. -/
def fnExactLotCostSpec : ChangeSpec := { name := "fnExactLotCost", fn := fun _ => fun
  | [d1, d2] => { results := [.lit (.bool true)], args := [d1, d2] }
  | _ => none }
def fnExactLotCostRow : OpenClaim := { program := "ytagkblgpaallbaa", sum := "9554eda1bffe1cfdea16dd405088a57c32e9007c10eb4788fae5c722743ddfbd", func := "loop.example/g00451/laws.FnExactLotCost", spec := "fnExactLotCost", unfollowed := true, recurses := true, apart := false }
def FnExactLotCostSaid : Prop := fnExactLotCostRow.holds Try.pinned (OpenSpec.ofChange fnExactLotCostSpec)

/-- ITS FALSE NEIGHBOUR: 'it returns false'. Refute it at one input. -/
def fnExactLotCostWrong : ChangeSpec := { name := "fnExactLotCost", fn := fun _ => fun
  | [d1, d2] => { results := [.lit (.bool false)], args := [d1, d2] }
  | _ => none }
def FnExactLotCostWrongFalsely : Prop := fnExactLotCostRow.holds Try.pinned (OpenSpec.ofChange fnExactLotCostWrong)

/-- 'laws.FnExactNextFor': WHATEVER THE INPUT: true; the input reads as it did. -/
def fnExactNextForSpec : ChangeSpec := { name := "fnExactNextFor", fn := fun _ => fun
  | [d1, d2] => { results := [.lit (.bool true)], args := [d1, d2] }
  | _ => none }
def fnExactNextForRow : OpenClaim := { program := "ytagkblgpaallbaa", sum := "9554eda1bffe1cfdea16dd405088a57c32e9007c10eb4788fae5c722743ddfbd", func := "loop.example/g00451/laws.FnExactNextFor", spec := "fnExactNextFor", unfollowed := true, recurses := true, apart := false }
def FnExactNextForSaid : Prop := fnExactNextForRow.holds Try.pinned (OpenSpec.ofChange fnExactNextForSpec)

/-- ITS FALSE NEIGHBOUR: 'it returns false'. Refute it at one input. -/
def fnExactNextForWrong : ChangeSpec := { name := "fnExactNextFor", fn := fun _ => fun
  | [d1, d2] => { results := [.lit (.bool false)], args := [d1, d2] }
  | _ => none }
def FnExactNextForWrongFalsely : Prop := fnExactNextForRow.holds Try.pinned (OpenSpec.ofChange fnExactNextForWrong)

/-- 'laws.FnExactCostTable': WHATEVER THE INPUT: true; the input reads as it did. -/
def fnExactCostTableSpec : ChangeSpec := { name := "fnExactCostTable", fn := fun _ => fun
  | [d] => { results := [.lit (.bool true)], args := [d] }
  | _ => none }
def fnExactCostTableRow : OpenClaim := { program := "ytagkblgpaallbaa", sum := "9554eda1bffe1cfdea16dd405088a57c32e9007c10eb4788fae5c722743ddfbd", func := "loop.example/g00451/laws.FnExactCostTable", spec := "fnExactCostTable", unfollowed := true, recurses := true, apart := false }
def FnExactCostTableSaid : Prop := fnExactCostTableRow.holds Try.pinned (OpenSpec.ofChange fnExactCostTableSpec)

/-- ITS FALSE NEIGHBOUR: 'it returns false'. Refute it at one input. -/
def fnExactCostTableWrong : ChangeSpec := { name := "fnExactCostTable", fn := fun _ => fun
  | [d] => { results := [.lit (.bool false)], args := [d] }
  | _ => none }
def FnExactCostTableWrongFalsely : Prop := fnExactCostTableRow.holds Try.pinned (OpenSpec.ofChange fnExactCostTableWrong)

/-- 'laws.FnExactShareOut': WHATEVER THE INPUT: true; the input reads as it did. -/
def fnExactShareOutSpec : ChangeSpec := { name := "fnExactShareOut", fn := fun _ => fun
  | [d1, d2] => { results := [.lit (.bool true)], args := [d1, d2] }
  | _ => none }
def fnExactShareOutRow : OpenClaim := { program := "ytagkblgpaallbaa", sum := "9554eda1bffe1cfdea16dd405088a57c32e9007c10eb4788fae5c722743ddfbd", func := "loop.example/g00451/laws.FnExactShareOut", spec := "fnExactShareOut", unfollowed := true, recurses := true, apart := false }
def FnExactShareOutSaid : Prop := fnExactShareOutRow.holds Try.pinned (OpenSpec.ofChange fnExactShareOutSpec)

/-- ITS FALSE NEIGHBOUR: 'it returns false'. Refute it at one input. -/
def fnExactShareOutWrong : ChangeSpec := { name := "fnExactShareOut", fn := fun _ => fun
  | [d1, d2] => { results := [.lit (.bool false)], args := [d1, d2] }
  | _ => none }
def FnExactShareOutWrongFalsely : Prop := fnExactShareOutRow.holds Try.pinned (OpenSpec.ofChange fnExactShareOutWrong)

/-- 'laws.FnOrder': WHATEVER THE INPUT: true; the input reads as it did. -/
def fnOrderSpec : ChangeSpec := { name := "fnOrder", fn := fun _ => fun
  | [d1, d2] => { results := [.lit (.bool true)], args := [d1, d2] }
  | _ => none }
def fnOrderRow : OpenClaim := { program := "ytagkblgpaallbaa", sum := "9554eda1bffe1cfdea16dd405088a57c32e9007c10eb4788fae5c722743ddfbd", func := "loop.example/g00451/laws.FnOrder", spec := "fnOrder", unfollowed := true, recurses := true, apart := false }
def FnOrderSaid : Prop := fnOrderRow.holds Try.pinned (OpenSpec.ofChange fnOrderSpec)

/-- ITS FALSE NEIGHBOUR: 'it returns false'. Refute it at one input. -/
def fnOrderWrong : ChangeSpec := { name := "fnOrder", fn := fun _ => fun
  | [d1, d2] => { results := [.lit (.bool false)], args := [d1, d2] }
  | _ => none }
def FnOrderWrongFalsely : Prop := fnOrderRow.holds Try.pinned (OpenSpec.ofChange fnOrderWrong)

/-- 'laws.FnTables': WHATEVER THE INPUT: true; the input reads as it did. -/
def fnTablesSpec : ChangeSpec := { name := "fnTables", fn := fun _ => fun
  | [d1, d2] => { results := [.lit (.bool true)], args := [d1, d2] }
  | _ => none }
def fnTablesRow : OpenClaim := { program := "ytagkblgpaallbaa", sum := "9554eda1bffe1cfdea16dd405088a57c32e9007c10eb4788fae5c722743ddfbd", func := "loop.example/g00451/laws.FnTables", spec := "fnTables", unfollowed := true, recurses := true, apart := false }
def FnTablesSaid : Prop := fnTablesRow.holds Try.pinned (OpenSpec.ofChange fnTablesSpec)

/-- ITS FALSE NEIGHBOUR: 'it returns false'. Refute it at one input. -/
def fnTablesWrong : ChangeSpec := { name := "fnTables", fn := fun _ => fun
  | [d1, d2] => { results := [.lit (.bool false)], args := [d1, d2] }
  | _ => none }
def FnTablesWrongFalsely : Prop := fnTablesRow.holds Try.pinned (OpenSpec.ofChange fnTablesWrong)

/-- 'laws.FnExactBestLots': WHATEVER THE INPUT: true; the input reads as it did. -/
def fnExactBestLotsSpec : ChangeSpec := { name := "fnExactBestLots", fn := fun _ => fun
  | [d] => { results := [.lit (.bool true)], args := [d] }
  | _ => none }
def fnExactBestLotsRow : OpenClaim := { program := "ytagkblgpaallbaa", sum := "9554eda1bffe1cfdea16dd405088a57c32e9007c10eb4788fae5c722743ddfbd", func := "loop.example/g00451/laws.FnExactBestLots", spec := "fnExactBestLots", unfollowed := true, recurses := true, apart := false }
def FnExactBestLotsSaid : Prop := fnExactBestLotsRow.holds Try.pinned (OpenSpec.ofChange fnExactBestLotsSpec)

/-- ITS FALSE NEIGHBOUR: 'it returns false'. Refute it at one input. -/
def fnExactBestLotsWrong : ChangeSpec := { name := "fnExactBestLots", fn := fun _ => fun
  | [d] => { results := [.lit (.bool false)], args := [d] }
  | _ => none }
def FnExactBestLotsWrongFalsely : Prop := fnExactBestLotsRow.holds Try.pinned (OpenSpec.ofChange fnExactBestLotsWrong)

/-- 'laws.FnExactMatchLoads': WHATEVER THE INPUT: true; the input reads as it did. -/
def fnExactMatchLoadsSpec : ChangeSpec := { name := "fnExactMatchLoads", fn := fun _ => fun
  | [d] => { results := [.lit (.bool true)], args := [d] }
  | _ => none }
def fnExactMatchLoadsRow : OpenClaim := { program := "ytagkblgpaallbaa", sum := "9554eda1bffe1cfdea16dd405088a57c32e9007c10eb4788fae5c722743ddfbd", func := "loop.example/g00451/laws.FnExactMatchLoads", spec := "fnExactMatchLoads", unfollowed := true, recurses := true, apart := false }
def FnExactMatchLoadsSaid : Prop := fnExactMatchLoadsRow.holds Try.pinned (OpenSpec.ofChange fnExactMatchLoadsSpec)

/-- ITS FALSE NEIGHBOUR: 'it returns false'. Refute it at one input. -/
def fnExactMatchLoadsWrong : ChangeSpec := { name := "fnExactMatchLoads", fn := fun _ => fun
  | [d] => { results := [.lit (.bool false)], args := [d] }
  | _ => none }
def FnExactMatchLoadsWrongFalsely : Prop := fnExactMatchLoadsRow.holds Try.pinned (OpenSpec.ofChange fnExactMatchLoadsWrong)

/-- 'laws.FnExactShareMore': WHATEVER THE INPUT: true; the input reads as it did. -/
def fnExactShareMoreSpec : ChangeSpec := { name := "fnExactShareMore", fn := fun _ => fun
  | [d1, d2] => { results := [.lit (.bool true)], args := [d1, d2] }
  | _ => none }
def fnExactShareMoreRow : OpenClaim := { program := "ytagkblgpaallbaa", sum := "9554eda1bffe1cfdea16dd405088a57c32e9007c10eb4788fae5c722743ddfbd", func := "loop.example/g00451/laws.FnExactShareMore", spec := "fnExactShareMore", unfollowed := true, recurses := true, apart := false }
def FnExactShareMoreSaid : Prop := fnExactShareMoreRow.holds Try.pinned (OpenSpec.ofChange fnExactShareMoreSpec)

/-- ITS FALSE NEIGHBOUR: 'it returns false'. Refute it at one input. -/
def fnExactShareMoreWrong : ChangeSpec := { name := "fnExactShareMore", fn := fun _ => fun
  | [d1, d2] => { results := [.lit (.bool false)], args := [d1, d2] }
  | _ => none }
def FnExactShareMoreWrongFalsely : Prop := fnExactShareMoreRow.holds Try.pinned (OpenSpec.ofChange fnExactShareMoreWrong)

/-- 'laws.FnTrees': WHATEVER THE INPUT: true; the input reads as it did. -/
def fnTreesSpec : ChangeSpec := { name := "fnTrees", fn := fun _ => fun
  | [d1, d2] => { results := [.lit (.bool true)], args := [d1, d2] }
  | _ => none }
def fnTreesRow : OpenClaim := { program := "ytagkblgpaallbaa", sum := "9554eda1bffe1cfdea16dd405088a57c32e9007c10eb4788fae5c722743ddfbd", func := "loop.example/g00451/laws.FnTrees", spec := "fnTrees", unfollowed := true, recurses := true, apart := false }
def FnTreesSaid : Prop := fnTreesRow.holds Try.pinned (OpenSpec.ofChange fnTreesSpec)

/-- ITS FALSE NEIGHBOUR: 'it returns false'. Refute it at one input. -/
def fnTreesWrong : ChangeSpec := { name := "fnTrees", fn := fun _ => fun
  | [d1, d2] => { results := [.lit (.bool false)], args := [d1, d2] }
  | _ => none }
def FnTreesWrongFalsely : Prop := fnTreesRow.holds Try.pinned (OpenSpec.ofChange fnTreesWrong)

/-- 'laws.FnExactSlotsFor': WHATEVER THE INPUT: true; the input reads as it did. -/
def fnExactSlotsForSpec : ChangeSpec := { name := "fnExactSlotsFor", fn := fun _ => fun
  | [d1, d2, d3] => { results := [.lit (.bool true)], args := [d1, d2, d3] }
  | _ => none }
def fnExactSlotsForRow : OpenClaim := { program := "ytagkblgpaallbaa", sum := "9554eda1bffe1cfdea16dd405088a57c32e9007c10eb4788fae5c722743ddfbd", func := "loop.example/g00451/laws.FnExactSlotsFor", spec := "fnExactSlotsFor", unfollowed := true, recurses := true, apart := false }
def FnExactSlotsForSaid : Prop := fnExactSlotsForRow.holds Try.pinned (OpenSpec.ofChange fnExactSlotsForSpec)

/-- ITS FALSE NEIGHBOUR: 'it returns false'. Refute it at one input. -/
def fnExactSlotsForWrong : ChangeSpec := { name := "fnExactSlotsFor", fn := fun _ => fun
  | [d1, d2, d3] => { results := [.lit (.bool false)], args := [d1, d2, d3] }
  | _ => none }
def FnExactSlotsForWrongFalsely : Prop := fnExactSlotsForRow.holds Try.pinned (OpenSpec.ofChange fnExactSlotsForWrong)

/-- 'laws.FnExactCoverOf': WHATEVER THE INPUT: true; the input reads as it did. -/
def fnExactCoverOfSpec : ChangeSpec := { name := "fnExactCoverOf", fn := fun _ => fun
  | [d] => { results := [.lit (.bool true)], args := [d] }
  | _ => none }
def fnExactCoverOfRow : OpenClaim := { program := "ytagkblgpaallbaa", sum := "9554eda1bffe1cfdea16dd405088a57c32e9007c10eb4788fae5c722743ddfbd", func := "loop.example/g00451/laws.FnExactCoverOf", spec := "fnExactCoverOf", unfollowed := true, recurses := true, apart := false }
def FnExactCoverOfSaid : Prop := fnExactCoverOfRow.holds Try.pinned (OpenSpec.ofChange fnExactCoverOfSpec)

/-- ITS FALSE NEIGHBOUR: 'it returns false'. Refute it at one input. -/
def fnExactCoverOfWrong : ChangeSpec := { name := "fnExactCoverOf", fn := fun _ => fun
  | [d] => { results := [.lit (.bool false)], args := [d] }
  | _ => none }
def FnExactCoverOfWrongFalsely : Prop := fnExactCoverOfRow.holds Try.pinned (OpenSpec.ofChange fnExactCoverOfWrong)

/- THE SECOND FORM. 'bulk': how many values and letters a reading holds, each counted each time it is reached (what is shared counts as often as it is met; a slice's spare places count too). A statement '..UptoSaid' is the law's where the arguments, and the package variables that the reading takes, are together of bulk at most 1048576: NARROWER than '..Said'. Prove '..Said' where nothing that the law and all that it calls make is longer than what came in: it says more and counts as full. Else prove '..UptoSaid'. A law counts once. -/
mutual
def uptoBulk {H : Type} : DataW H → Nat
  | .lit (.string bytes) => bytes.length + 1
  | .lit _ => 1
  | .nil => 1
  | .ptr d => uptoBulk d + 1
  | .slice elems spare => uptoBulkAll elems + uptoBulkAll spare + 1
  | .agg parts => uptoBulkAll parts + 1
  | .iface _ d => uptoBulk d + 1
  | .map entries => uptoBulkEntries entries + 1
  | .held _ => 1
def uptoBulkAll {H : Type} : List (DataW H) → Nat
  | [] => 0
  | d :: r => uptoBulk d + uptoBulkAll r
def uptoBulkEntries {H : Type} : List (Lit × DataW H) → Nat
  | [] => 0
  | x :: r => uptoBulkEntry x + uptoBulkEntries r
def uptoBulkEntry {H : Type} : Lit × DataW H → Nat
  | (.string bytes, d) => bytes.length + uptoBulk d + 1
  | (_, d) => uptoBulk d + 1
 end
def uptoSmall : (H : Type) → List (DataW H) → Bool := fun _ ds => decide (uptoBulkAll ds ≤ 1048576)
def OpenSpec.upto (s : _root_.Go.ChangeSpec) : _root_.Go.OpenSpec := { _root_.Go.OpenSpec.ofChange s with cond := some uptoSmall }

/-- 'laws.FnExactLotCost', WHERE WHAT IT READS IS OF BULK AT MOST 1048576: true; the input reads as it did. -/
def fnExactLotCostUptoRow : OpenClaim := { program := "ytagkblgpaallbaa", sum := "9554eda1bffe1cfdea16dd405088a57c32e9007c10eb4788fae5c722743ddfbd", func := "loop.example/g00451/laws.FnExactLotCost", spec := "fnExactLotCost", unfollowed := true, recurses := true, apart := false, narrowed := true }
def FnExactLotCostUptoSaid : Prop := fnExactLotCostUptoRow.holds Try.pinned (OpenSpec.upto fnExactLotCostSpec)

/-- 'laws.FnExactNextFor', WHERE WHAT IT READS IS OF BULK AT MOST 1048576: true; the input reads as it did. -/
def fnExactNextForUptoRow : OpenClaim := { program := "ytagkblgpaallbaa", sum := "9554eda1bffe1cfdea16dd405088a57c32e9007c10eb4788fae5c722743ddfbd", func := "loop.example/g00451/laws.FnExactNextFor", spec := "fnExactNextFor", unfollowed := true, recurses := true, apart := false, narrowed := true }
def FnExactNextForUptoSaid : Prop := fnExactNextForUptoRow.holds Try.pinned (OpenSpec.upto fnExactNextForSpec)

/-- 'laws.FnExactCostTable', WHERE WHAT IT READS IS OF BULK AT MOST 1048576: true; the input reads as it did. -/
def fnExactCostTableUptoRow : OpenClaim := { program := "ytagkblgpaallbaa", sum := "9554eda1bffe1cfdea16dd405088a57c32e9007c10eb4788fae5c722743ddfbd", func := "loop.example/g00451/laws.FnExactCostTable", spec := "fnExactCostTable", unfollowed := true, recurses := true, apart := false, narrowed := true }
def FnExactCostTableUptoSaid : Prop := fnExactCostTableUptoRow.holds Try.pinned (OpenSpec.upto fnExactCostTableSpec)

/-- 'laws.FnExactShareOut', WHERE WHAT IT READS IS OF BULK AT MOST 1048576: true; the input reads as it did. -/
def fnExactShareOutUptoRow : OpenClaim := { program := "ytagkblgpaallbaa", sum := "9554eda1bffe1cfdea16dd405088a57c32e9007c10eb4788fae5c722743ddfbd", func := "loop.example/g00451/laws.FnExactShareOut", spec := "fnExactShareOut", unfollowed := true, recurses := true, apart := false, narrowed := true }
def FnExactShareOutUptoSaid : Prop := fnExactShareOutUptoRow.holds Try.pinned (OpenSpec.upto fnExactShareOutSpec)

/-- 'laws.FnOrder', WHERE WHAT IT READS IS OF BULK AT MOST 1048576: true; the input reads as it did. -/
def fnOrderUptoRow : OpenClaim := { program := "ytagkblgpaallbaa", sum := "9554eda1bffe1cfdea16dd405088a57c32e9007c10eb4788fae5c722743ddfbd", func := "loop.example/g00451/laws.FnOrder", spec := "fnOrder", unfollowed := true, recurses := true, apart := false, narrowed := true }
def FnOrderUptoSaid : Prop := fnOrderUptoRow.holds Try.pinned (OpenSpec.upto fnOrderSpec)

/-- 'laws.FnTables', WHERE WHAT IT READS IS OF BULK AT MOST 1048576: true; the input reads as it did. -/
def fnTablesUptoRow : OpenClaim := { program := "ytagkblgpaallbaa", sum := "9554eda1bffe1cfdea16dd405088a57c32e9007c10eb4788fae5c722743ddfbd", func := "loop.example/g00451/laws.FnTables", spec := "fnTables", unfollowed := true, recurses := true, apart := false, narrowed := true }
def FnTablesUptoSaid : Prop := fnTablesUptoRow.holds Try.pinned (OpenSpec.upto fnTablesSpec)

/-- 'laws.FnExactBestLots', WHERE WHAT IT READS IS OF BULK AT MOST 1048576: true; the input reads as it did. -/
def fnExactBestLotsUptoRow : OpenClaim := { program := "ytagkblgpaallbaa", sum := "9554eda1bffe1cfdea16dd405088a57c32e9007c10eb4788fae5c722743ddfbd", func := "loop.example/g00451/laws.FnExactBestLots", spec := "fnExactBestLots", unfollowed := true, recurses := true, apart := false, narrowed := true }
def FnExactBestLotsUptoSaid : Prop := fnExactBestLotsUptoRow.holds Try.pinned (OpenSpec.upto fnExactBestLotsSpec)

/-- 'laws.FnExactMatchLoads', WHERE WHAT IT READS IS OF BULK AT MOST 1048576: true; the input reads as it did. -/
def fnExactMatchLoadsUptoRow : OpenClaim := { program := "ytagkblgpaallbaa", sum := "9554eda1bffe1cfdea16dd405088a57c32e9007c10eb4788fae5c722743ddfbd", func := "loop.example/g00451/laws.FnExactMatchLoads", spec := "fnExactMatchLoads", unfollowed := true, recurses := true, apart := false, narrowed := true }
def FnExactMatchLoadsUptoSaid : Prop := fnExactMatchLoadsUptoRow.holds Try.pinned (OpenSpec.upto fnExactMatchLoadsSpec)

/-- 'laws.FnExactShareMore', WHERE WHAT IT READS IS OF BULK AT MOST 1048576: true; the input reads as it did. -/
def fnExactShareMoreUptoRow : OpenClaim := { program := "ytagkblgpaallbaa", sum := "9554eda1bffe1cfdea16dd405088a57c32e9007c10eb4788fae5c722743ddfbd", func := "loop.example/g00451/laws.FnExactShareMore", spec := "fnExactShareMore", unfollowed := true, recurses := true, apart := false, narrowed := true }
def FnExactShareMoreUptoSaid : Prop := fnExactShareMoreUptoRow.holds Try.pinned (OpenSpec.upto fnExactShareMoreSpec)

/-- 'laws.FnTrees', WHERE WHAT IT READS IS OF BULK AT MOST 1048576: true; the input reads as it did. -/
def fnTreesUptoRow : OpenClaim := { program := "ytagkblgpaallbaa", sum := "9554eda1bffe1cfdea16dd405088a57c32e9007c10eb4788fae5c722743ddfbd", func := "loop.example/g00451/laws.FnTrees", spec := "fnTrees", unfollowed := true, recurses := true, apart := false, narrowed := true }
def FnTreesUptoSaid : Prop := fnTreesUptoRow.holds Try.pinned (OpenSpec.upto fnTreesSpec)

/-- 'laws.FnExactSlotsFor', WHERE WHAT IT READS IS OF BULK AT MOST 1048576: true; the input reads as it did. -/
def fnExactSlotsForUptoRow : OpenClaim := { program := "ytagkblgpaallbaa", sum := "9554eda1bffe1cfdea16dd405088a57c32e9007c10eb4788fae5c722743ddfbd", func := "loop.example/g00451/laws.FnExactSlotsFor", spec := "fnExactSlotsFor", unfollowed := true, recurses := true, apart := false, narrowed := true }
def FnExactSlotsForUptoSaid : Prop := fnExactSlotsForUptoRow.holds Try.pinned (OpenSpec.upto fnExactSlotsForSpec)

/-- 'laws.FnExactCoverOf', WHERE WHAT IT READS IS OF BULK AT MOST 1048576: true; the input reads as it did. -/
def fnExactCoverOfUptoRow : OpenClaim := { program := "ytagkblgpaallbaa", sum := "9554eda1bffe1cfdea16dd405088a57c32e9007c10eb4788fae5c722743ddfbd", func := "loop.example/g00451/laws.FnExactCoverOf", spec := "fnExactCoverOf", unfollowed := true, recurses := true, apart := false, narrowed := true }
def FnExactCoverOfUptoSaid : Prop := fnExactCoverOfUptoRow.holds Try.pinned (OpenSpec.upto fnExactCoverOfSpec)

end Rows
end Go.Proofs.Ytagkblgpaallbaa
