/-
  No cell of these rows narrows 'for every input' (looked for: loops, veiled, ifaces, maps, wideKeys, modest, calm, conditions, laid).
  DERIVED. THE GIVEN ROWS OF THIS SEAT. 12 by the template 'for every input the law returns true; each argument reads behind the call as it read before'; 0 by the template 'total and deterministic' (their statements: YtpagpbamdpllnaaTotals.lean).
  GIVEN WITH THE SEED: the statements are not yours to turn. If you find one false, say at which input.
  Laid BY PROGRAM, IN A SANDBOX (cutbox-rows.mjs): the forced cells as the released guide's own fill.sh prints them over the translation a49dd8cf81838deb… (all of the seat's roots in one cut). By AI agents, Wed Nov 11 2026. No macro, syntax, notation, axiom, sorry.
-/
import Derived.Test.YtpagpbamdpllnaaChecked
import GoSem.Claim
import GoSem.ClaimJoined
import GoSem.ClaimMapViews
import Derived.JoinedTies
import Derived.KernelRfl
namespace Go.Proofs.Ytpagpbamdpllnaa
/- THE CELL 'sum', in the pinned program and in every row, IS THE sha256 OF THE DUMP (.gsa) THAT YtpagpbamdpllnaaProg.lean LOADS. Nothing in Lean hashes anything: it is a label: what it is worth is what the hold of that sum in a sandbox is worth. -/
noncomputable def Try.pinned : Pinned := { name := "ytpagpbamdpllnaa", sum := "a49dd8cf81838deb58ff0813f11d2283922365d194a2a60e09bb5bc890ffb0bd", checked := Try.checked }
namespace Rows
def none {H : Type} : Left H := { results := [], args := [] }

/-- 'laws.FnShares': WHATEVER THE INPUT: true; the input reads as it did. -/
def fnSharesSpec : ChangeSpec := { name := "fnShares", fn := fun _ => fun
  | [d1, d2] => { results := [.lit (.bool true)], args := [d1, d2] }
  | _ => none }
def fnSharesRow : OpenClaim := { program := "ytpagpbamdpllnaa", sum := "a49dd8cf81838deb58ff0813f11d2283922365d194a2a60e09bb5bc890ffb0bd", func := "loop.example/g00451/laws.FnShares", spec := "fnShares", unfollowed := true, recurses := true, apart := false }
def FnSharesSaid : Prop := fnSharesRow.holds Try.pinned (OpenSpec.ofChange fnSharesSpec)

/-- ITS FALSE NEIGHBOUR: 'it returns false'. Refute it at one input. -/
def fnSharesWrong : ChangeSpec := { name := "fnShares", fn := fun _ => fun
  | [d1, d2] => { results := [.lit (.bool false)], args := [d1, d2] }
  | _ => none }
def FnSharesWrongFalsely : Prop := fnSharesRow.holds Try.pinned (OpenSpec.ofChange fnSharesWrong)

/-- 'laws.FnFluid': WHATEVER THE INPUT: true; the input reads as it did. -/
def fnFluidSpec : ChangeSpec := { name := "fnFluid", fn := fun _ => fun
  | [d1, d2] => { results := [.lit (.bool true)], args := [d1, d2] }
  | _ => none }
def fnFluidRow : OpenClaim := { program := "ytpagpbamdpllnaa", sum := "a49dd8cf81838deb58ff0813f11d2283922365d194a2a60e09bb5bc890ffb0bd", func := "loop.example/g00451/laws.FnFluid", spec := "fnFluid", unfollowed := true, recurses := true, apart := false }
def FnFluidSaid : Prop := fnFluidRow.holds Try.pinned (OpenSpec.ofChange fnFluidSpec)

/-- ITS FALSE NEIGHBOUR: 'it returns false'. Refute it at one input. -/
def fnFluidWrong : ChangeSpec := { name := "fnFluid", fn := fun _ => fun
  | [d1, d2] => { results := [.lit (.bool false)], args := [d1, d2] }
  | _ => none }
def FnFluidWrongFalsely : Prop := fnFluidRow.holds Try.pinned (OpenSpec.ofChange fnFluidWrong)

/-- 'laws.FnTables': WHATEVER THE INPUT: true; the input reads as it did. -/
def fnTablesSpec : ChangeSpec := { name := "fnTables", fn := fun _ => fun
  | [d1, d2] => { results := [.lit (.bool true)], args := [d1, d2] }
  | _ => none }
def fnTablesRow : OpenClaim := { program := "ytpagpbamdpllnaa", sum := "a49dd8cf81838deb58ff0813f11d2283922365d194a2a60e09bb5bc890ffb0bd", func := "loop.example/g00451/laws.FnTables", spec := "fnTables", unfollowed := true, recurses := true, apart := false }
def FnTablesSaid : Prop := fnTablesRow.holds Try.pinned (OpenSpec.ofChange fnTablesSpec)

/-- ITS FALSE NEIGHBOUR: 'it returns false'. Refute it at one input. -/
def fnTablesWrong : ChangeSpec := { name := "fnTables", fn := fun _ => fun
  | [d1, d2] => { results := [.lit (.bool false)], args := [d1, d2] }
  | _ => none }
def FnTablesWrongFalsely : Prop := fnTablesRow.holds Try.pinned (OpenSpec.ofChange fnTablesWrong)

/-- 'laws.FnChoice': WHATEVER THE INPUT: true; the input reads as it did. -/
def fnChoiceSpec : ChangeSpec := { name := "fnChoice", fn := fun _ => fun
  | [d1, d2] => { results := [.lit (.bool true)], args := [d1, d2] }
  | _ => none }
def fnChoiceRow : OpenClaim := { program := "ytpagpbamdpllnaa", sum := "a49dd8cf81838deb58ff0813f11d2283922365d194a2a60e09bb5bc890ffb0bd", func := "loop.example/g00451/laws.FnChoice", spec := "fnChoice", unfollowed := true, recurses := true, apart := false }
def FnChoiceSaid : Prop := fnChoiceRow.holds Try.pinned (OpenSpec.ofChange fnChoiceSpec)

/-- ITS FALSE NEIGHBOUR: 'it returns false'. Refute it at one input. -/
def fnChoiceWrong : ChangeSpec := { name := "fnChoice", fn := fun _ => fun
  | [d1, d2] => { results := [.lit (.bool false)], args := [d1, d2] }
  | _ => none }
def FnChoiceWrongFalsely : Prop := fnChoiceRow.holds Try.pinned (OpenSpec.ofChange fnChoiceWrong)

/-- 'laws.FnExactMatchLoads': WHATEVER THE INPUT: true; the input reads as it did. -/
def fnExactMatchLoadsSpec : ChangeSpec := { name := "fnExactMatchLoads", fn := fun _ => fun
  | [d] => { results := [.lit (.bool true)], args := [d] }
  | _ => none }
def fnExactMatchLoadsRow : OpenClaim := { program := "ytpagpbamdpllnaa", sum := "a49dd8cf81838deb58ff0813f11d2283922365d194a2a60e09bb5bc890ffb0bd", func := "loop.example/g00451/laws.FnExactMatchLoads", spec := "fnExactMatchLoads", unfollowed := true, recurses := true, apart := false }
def FnExactMatchLoadsSaid : Prop := fnExactMatchLoadsRow.holds Try.pinned (OpenSpec.ofChange fnExactMatchLoadsSpec)

/-- ITS FALSE NEIGHBOUR: 'it returns false'. Refute it at one input. -/
def fnExactMatchLoadsWrong : ChangeSpec := { name := "fnExactMatchLoads", fn := fun _ => fun
  | [d] => { results := [.lit (.bool false)], args := [d] }
  | _ => none }
def FnExactMatchLoadsWrongFalsely : Prop := fnExactMatchLoadsRow.holds Try.pinned (OpenSpec.ofChange fnExactMatchLoadsWrong)

/-- 'laws.FnExactShareMore': WHATEVER THE INPUT: true; the input reads as it did. -/
def fnExactShareMoreSpec : ChangeSpec := { name := "fnExactShareMore", fn := fun _ => fun
  | [d1, d2] => { results := [.lit (.bool true)], args := [d1, d2] }
  | _ => none }
def fnExactShareMoreRow : OpenClaim := { program := "ytpagpbamdpllnaa", sum := "a49dd8cf81838deb58ff0813f11d2283922365d194a2a60e09bb5bc890ffb0bd", func := "loop.example/g00451/laws.FnExactShareMore", spec := "fnExactShareMore", unfollowed := true, recurses := true, apart := false }
def FnExactShareMoreSaid : Prop := fnExactShareMoreRow.holds Try.pinned (OpenSpec.ofChange fnExactShareMoreSpec)

/-- ITS FALSE NEIGHBOUR: 'it returns false'. Refute it at one input. -/
def fnExactShareMoreWrong : ChangeSpec := { name := "fnExactShareMore", fn := fun _ => fun
  | [d1, d2] => { results := [.lit (.bool false)], args := [d1, d2] }
  | _ => none }
def FnExactShareMoreWrongFalsely : Prop := fnExactShareMoreRow.holds Try.pinned (OpenSpec.ofChange fnExactShareMoreWrong)

/-- 'laws.FnExactCoverOf': WHATEVER THE INPUT: true; the input reads as it did. -/
def fnExactCoverOfSpec : ChangeSpec := { name := "fnExactCoverOf", fn := fun _ => fun
  | [d] => { results := [.lit (.bool true)], args := [d] }
  | _ => none }
def fnExactCoverOfRow : OpenClaim := { program := "ytpagpbamdpllnaa", sum := "a49dd8cf81838deb58ff0813f11d2283922365d194a2a60e09bb5bc890ffb0bd", func := "loop.example/g00451/laws.FnExactCoverOf", spec := "fnExactCoverOf", unfollowed := true, recurses := true, apart := false }
def FnExactCoverOfSaid : Prop := fnExactCoverOfRow.holds Try.pinned (OpenSpec.ofChange fnExactCoverOfSpec)

/-- ITS FALSE NEIGHBOUR: 'it returns false'. Refute it at one input. -/
def fnExactCoverOfWrong : ChangeSpec := { name := "fnExactCoverOf", fn := fun _ => fun
  | [d] => { results := [.lit (.bool false)], args := [d] }
  | _ => none }
def FnExactCoverOfWrongFalsely : Prop := fnExactCoverOfRow.holds Try.pinned (OpenSpec.ofChange fnExactCoverOfWrong)

/-- 'laws.FnExactLackOf': WHATEVER THE INPUT: true; the input reads as it did. -/
def fnExactLackOfSpec : ChangeSpec := { name := "fnExactLackOf", fn := fun _ => fun
  | [d] => { results := [.lit (.bool true)], args := [d] }
  | _ => none }
def fnExactLackOfRow : OpenClaim := { program := "ytpagpbamdpllnaa", sum := "a49dd8cf81838deb58ff0813f11d2283922365d194a2a60e09bb5bc890ffb0bd", func := "loop.example/g00451/laws.FnExactLackOf", spec := "fnExactLackOf", unfollowed := true, recurses := true, apart := false }
def FnExactLackOfSaid : Prop := fnExactLackOfRow.holds Try.pinned (OpenSpec.ofChange fnExactLackOfSpec)

/-- ITS FALSE NEIGHBOUR: 'it returns false'. Refute it at one input. -/
def fnExactLackOfWrong : ChangeSpec := { name := "fnExactLackOf", fn := fun _ => fun
  | [d] => { results := [.lit (.bool false)], args := [d] }
  | _ => none }
def FnExactLackOfWrongFalsely : Prop := fnExactLackOfRow.holds Try.pinned (OpenSpec.ofChange fnExactLackOfWrong)

/-- 'laws.FnCovers': WHATEVER THE INPUT: true; the input reads as it did. -/
def fnCoversSpec : ChangeSpec := { name := "fnCovers", fn := fun _ => fun
  | [d1, d2] => { results := [.lit (.bool true)], args := [d1, d2] }
  | _ => none }
def fnCoversRow : OpenClaim := { program := "ytpagpbamdpllnaa", sum := "a49dd8cf81838deb58ff0813f11d2283922365d194a2a60e09bb5bc890ffb0bd", func := "loop.example/g00451/laws.FnCovers", spec := "fnCovers", unfollowed := true, recurses := true, apart := false }
def FnCoversSaid : Prop := fnCoversRow.holds Try.pinned (OpenSpec.ofChange fnCoversSpec)

/-- ITS FALSE NEIGHBOUR: 'it returns false'. Refute it at one input. -/
def fnCoversWrong : ChangeSpec := { name := "fnCovers", fn := fun _ => fun
  | [d1, d2] => { results := [.lit (.bool false)], args := [d1, d2] }
  | _ => none }
def FnCoversWrongFalsely : Prop := fnCoversRow.holds Try.pinned (OpenSpec.ofChange fnCoversWrong)

/-- 'laws.FnMatch': WHATEVER THE INPUT: true; the input reads as it did. -/
def fnMatchSpec : ChangeSpec := { name := "fnMatch", fn := fun _ => fun
  | [d1, d2] => { results := [.lit (.bool true)], args := [d1, d2] }
  | _ => none }
def fnMatchRow : OpenClaim := { program := "ytpagpbamdpllnaa", sum := "a49dd8cf81838deb58ff0813f11d2283922365d194a2a60e09bb5bc890ffb0bd", func := "loop.example/g00451/laws.FnMatch", spec := "fnMatch", unfollowed := true, recurses := true, apart := false }
def FnMatchSaid : Prop := fnMatchRow.holds Try.pinned (OpenSpec.ofChange fnMatchSpec)

/-- ITS FALSE NEIGHBOUR: 'it returns false'. Refute it at one input. -/
def fnMatchWrong : ChangeSpec := { name := "fnMatch", fn := fun _ => fun
  | [d1, d2] => { results := [.lit (.bool false)], args := [d1, d2] }
  | _ => none }
def FnMatchWrongFalsely : Prop := fnMatchRow.holds Try.pinned (OpenSpec.ofChange fnMatchWrong)

/-- 'laws.FnFlows': WHATEVER THE INPUT: true; the input reads as it did. -/
def fnFlowsSpec : ChangeSpec := { name := "fnFlows", fn := fun _ => fun
  | [d1, d2] => { results := [.lit (.bool true)], args := [d1, d2] }
  | _ => none }
def fnFlowsRow : OpenClaim := { program := "ytpagpbamdpllnaa", sum := "a49dd8cf81838deb58ff0813f11d2283922365d194a2a60e09bb5bc890ffb0bd", func := "loop.example/g00451/laws.FnFlows", spec := "fnFlows", unfollowed := true, recurses := true, apart := false }
def FnFlowsSaid : Prop := fnFlowsRow.holds Try.pinned (OpenSpec.ofChange fnFlowsSpec)

/-- ITS FALSE NEIGHBOUR: 'it returns false'. Refute it at one input. -/
def fnFlowsWrong : ChangeSpec := { name := "fnFlows", fn := fun _ => fun
  | [d1, d2] => { results := [.lit (.bool false)], args := [d1, d2] }
  | _ => none }
def FnFlowsWrongFalsely : Prop := fnFlowsRow.holds Try.pinned (OpenSpec.ofChange fnFlowsWrong)

/-- 'laws.FnCuts': WHATEVER THE INPUT: true; the input reads as it did. -/
def fnCutsSpec : ChangeSpec := { name := "fnCuts", fn := fun _ => fun
  | [d1, d2] => { results := [.lit (.bool true)], args := [d1, d2] }
  | _ => none }
def fnCutsRow : OpenClaim := { program := "ytpagpbamdpllnaa", sum := "a49dd8cf81838deb58ff0813f11d2283922365d194a2a60e09bb5bc890ffb0bd", func := "loop.example/g00451/laws.FnCuts", spec := "fnCuts", unfollowed := true, recurses := true, apart := false }
def FnCutsSaid : Prop := fnCutsRow.holds Try.pinned (OpenSpec.ofChange fnCutsSpec)

/-- ITS FALSE NEIGHBOUR: 'it returns false'. Refute it at one input. -/
def fnCutsWrong : ChangeSpec := { name := "fnCuts", fn := fun _ => fun
  | [d1, d2] => { results := [.lit (.bool false)], args := [d1, d2] }
  | _ => none }
def FnCutsWrongFalsely : Prop := fnCutsRow.holds Try.pinned (OpenSpec.ofChange fnCutsWrong)

/- THE SECOND FORM. 'bulk': how many values and letters a reading holds, each counted each time it is reached (what is shared counts as often as it is met; a slice's spare places count too). A statement '..UptoSaid' is the law's where the arguments, and the package variables that the reading takes, are together of bulk at most 1048576: NARROWER than '..Said'. Prove '..Said' where nothing that the law and all that it calls make is longer than what came in: it says more and counts as full. Else prove '..UptoSaid'. A law counts once. -/
mutual
def uptoBulk {H : Type} : DataW H → Nat
  | .lit (.string bytes) => bytes.length + 1
  | .lit _ => 1
  | .nil => 1
  | .ptr d => uptoBulk d + 1
  | .slice elems spare => uptoBulkAll elems + uptoBulkAll spare + 1
  | .agg parts => uptoBulkAll parts + 1
  | .iface _ d => uptoBulk d + 1
  | .map entries => uptoBulkEntries entries + 1
  | .held _ => 1
def uptoBulkAll {H : Type} : List (DataW H) → Nat
  | [] => 0
  | d :: r => uptoBulk d + uptoBulkAll r
def uptoBulkEntries {H : Type} : List (Lit × DataW H) → Nat
  | [] => 0
  | x :: r => uptoBulkEntry x + uptoBulkEntries r
def uptoBulkEntry {H : Type} : Lit × DataW H → Nat
  | (.string bytes, d) => bytes.length + uptoBulk d + 1
  | (_, d) => uptoBulk d + 1
 end
def uptoSmall : (H : Type) → List (DataW H) → Bool := fun _ ds => decide (uptoBulkAll ds ≤ 1048576)
def OpenSpec.upto (s : _root_.Go.ChangeSpec) : _root_.Go.OpenSpec := { _root_.Go.OpenSpec.ofChange s with cond := some uptoSmall }

/-- 'laws.FnShares', WHERE WHAT IT READS IS OF BULK AT MOST 1048576: true; the input reads as it did. -/
def fnSharesUptoRow : OpenClaim := { program := "ytpagpbamdpllnaa", sum := "a49dd8cf81838deb58ff0813f11d2283922365d194a2a60e09bb5bc890ffb0bd", func := "loop.example/g00451/laws.FnShares", spec := "fnShares", unfollowed := true, recurses := true, apart := false, narrowed := true }
def FnSharesUptoSaid : Prop := fnSharesUptoRow.holds Try.pinned (OpenSpec.upto fnSharesSpec)

/-- 'laws.FnFluid', WHERE WHAT IT READS IS OF BULK AT MOST 1048576: true; the input reads as it did. -/
def fnFluidUptoRow : OpenClaim := { program := "ytpagpbamdpllnaa", sum := "a49dd8cf81838deb58ff0813f11d2283922365d194a2a60e09bb5bc890ffb0bd", func := "loop.example/g00451/laws.FnFluid", spec := "fnFluid", unfollowed := true, recurses := true, apart := false, narrowed := true }
def FnFluidUptoSaid : Prop := fnFluidUptoRow.holds Try.pinned (OpenSpec.upto fnFluidSpec)

/-- 'laws.FnTables', WHERE WHAT IT READS IS OF BULK AT MOST 1048576: true; the input reads as it did. -/
def fnTablesUptoRow : OpenClaim := { program := "ytpagpbamdpllnaa", sum := "a49dd8cf81838deb58ff0813f11d2283922365d194a2a60e09bb5bc890ffb0bd", func := "loop.example/g00451/laws.FnTables", spec := "fnTables", unfollowed := true, recurses := true, apart := false, narrowed := true }
def FnTablesUptoSaid : Prop := fnTablesUptoRow.holds Try.pinned (OpenSpec.upto fnTablesSpec)

/-- 'laws.FnChoice', WHERE WHAT IT READS IS OF BULK AT MOST 1048576: true; the input reads as it did. -/
def fnChoiceUptoRow : OpenClaim := { program := "ytpagpbamdpllnaa", sum := "a49dd8cf81838deb58ff0813f11d2283922365d194a2a60e09bb5bc890ffb0bd", func := "loop.example/g00451/laws.FnChoice", spec := "fnChoice", unfollowed := true, recurses := true, apart := false, narrowed := true }
def FnChoiceUptoSaid : Prop := fnChoiceUptoRow.holds Try.pinned (OpenSpec.upto fnChoiceSpec)

/-- 'laws.FnExactMatchLoads', WHERE WHAT IT READS IS OF BULK AT MOST 1048576: true; the input reads as it did. -/
def fnExactMatchLoadsUptoRow : OpenClaim := { program := "ytpagpbamdpllnaa", sum := "a49dd8cf81838deb58ff0813f11d2283922365d194a2a60e09bb5bc890ffb0bd", func := "loop.example/g00451/laws.FnExactMatchLoads", spec := "fnExactMatchLoads", unfollowed := true, recurses := true, apart := false, narrowed := true }
def FnExactMatchLoadsUptoSaid : Prop := fnExactMatchLoadsUptoRow.holds Try.pinned (OpenSpec.upto fnExactMatchLoadsSpec)

/-- 'laws.FnExactShareMore', WHERE WHAT IT READS IS OF BULK AT MOST 1048576: true; the input reads as it did. -/
def fnExactShareMoreUptoRow : OpenClaim := { program := "ytpagpbamdpllnaa", sum := "a49dd8cf81838deb58ff0813f11d2283922365d194a2a60e09bb5bc890ffb0bd", func := "loop.example/g00451/laws.FnExactShareMore", spec := "fnExactShareMore", unfollowed := true, recurses := true, apart := false, narrowed := true }
def FnExactShareMoreUptoSaid : Prop := fnExactShareMoreUptoRow.holds Try.pinned (OpenSpec.upto fnExactShareMoreSpec)

/-- 'laws.FnExactCoverOf', WHERE WHAT IT READS IS OF BULK AT MOST 1048576: true; the input reads as it did. -/
def fnExactCoverOfUptoRow : OpenClaim := { program := "ytpagpbamdpllnaa", sum := "a49dd8cf81838deb58ff0813f11d2283922365d194a2a60e09bb5bc890ffb0bd", func := "loop.example/g00451/laws.FnExactCoverOf", spec := "fnExactCoverOf", unfollowed := true, recurses := true, apart := false, narrowed := true }
def FnExactCoverOfUptoSaid : Prop := fnExactCoverOfUptoRow.holds Try.pinned (OpenSpec.upto fnExactCoverOfSpec)

/-- 'laws.FnExactLackOf', WHERE WHAT IT READS IS OF BULK AT MOST 1048576: true; the input reads as it did. -/
def fnExactLackOfUptoRow : OpenClaim := { program := "ytpagpbamdpllnaa", sum := "a49dd8cf81838deb58ff0813f11d2283922365d194a2a60e09bb5bc890ffb0bd", func := "loop.example/g00451/laws.FnExactLackOf", spec := "fnExactLackOf", unfollowed := true, recurses := true, apart := false, narrowed := true }
def FnExactLackOfUptoSaid : Prop := fnExactLackOfUptoRow.holds Try.pinned (OpenSpec.upto fnExactLackOfSpec)

/-- 'laws.FnCovers', WHERE WHAT IT READS IS OF BULK AT MOST 1048576: true; the input reads as it did. -/
def fnCoversUptoRow : OpenClaim := { program := "ytpagpbamdpllnaa", sum := "a49dd8cf81838deb58ff0813f11d2283922365d194a2a60e09bb5bc890ffb0bd", func := "loop.example/g00451/laws.FnCovers", spec := "fnCovers", unfollowed := true, recurses := true, apart := false, narrowed := true }
def FnCoversUptoSaid : Prop := fnCoversUptoRow.holds Try.pinned (OpenSpec.upto fnCoversSpec)

/-- 'laws.FnMatch', WHERE WHAT IT READS IS OF BULK AT MOST 1048576: true; the input reads as it did. -/
def fnMatchUptoRow : OpenClaim := { program := "ytpagpbamdpllnaa", sum := "a49dd8cf81838deb58ff0813f11d2283922365d194a2a60e09bb5bc890ffb0bd", func := "loop.example/g00451/laws.FnMatch", spec := "fnMatch", unfollowed := true, recurses := true, apart := false, narrowed := true }
def FnMatchUptoSaid : Prop := fnMatchUptoRow.holds Try.pinned (OpenSpec.upto fnMatchSpec)

/-- 'laws.FnFlows', WHERE WHAT IT READS IS OF BULK AT MOST 1048576: true; the input reads as it did. -/
def fnFlowsUptoRow : OpenClaim := { program := "ytpagpbamdpllnaa", sum := "a49dd8cf81838deb58ff0813f11d2283922365d194a2a60e09bb5bc890ffb0bd", func := "loop.example/g00451/laws.FnFlows", spec := "fnFlows", unfollowed := true, recurses := true, apart := false, narrowed := true }
def FnFlowsUptoSaid : Prop := fnFlowsUptoRow.holds Try.pinned (OpenSpec.upto fnFlowsSpec)

/-- 'laws.FnCuts', WHERE WHAT IT READS IS OF BULK AT MOST 1048576: true; the input reads as it did. -/
def fnCutsUptoRow : OpenClaim := { program := "ytpagpbamdpllnaa", sum := "a49dd8cf81838deb58ff0813f11d2283922365d194a2a60e09bb5bc890ffb0bd", func := "loop.example/g00451/laws.FnCuts", spec := "fnCuts", unfollowed := true, recurses := true, apart := false, narrowed := true }
def FnCutsUptoSaid : Prop := fnCutsUptoRow.holds Try.pinned (OpenSpec.upto fnCutsSpec)

end Rows
end Go.Proofs.Ytpagpbamdpllnaa
