/-
  No cell of these rows narrows 'for every input' (looked for: loops, veiled, ifaces, maps, wideKeys, modest, calm, conditions, laid).
  DERIVED. THE GIVEN ROWS OF THIS SEAT. 12 by the template 'for every input the law returns true; each argument reads behind the call as it read before'; 0 by the template 'total and deterministic' (their statements: YtpadkogpeobboaaGreatTotals.lean).
  GIVEN WITH THE SEED: the statements are not yours to turn. If you find one false, say at which input.
  Laid BY PROGRAM, IN A SANDBOX (cutbox-rows.mjs): the forced cells as the released guide's own fill.sh prints them over the translation a4adefc82c7a4488… (all of the seat's roots in one cut). By AI agents, Wed Nov 11 2026. No macro, syntax, notation, axiom, sorry.
-/
import Derived.Test.YtpadkogpeobboaaGreatChecked
import GoSem.Claim
import GoSem.ClaimJoined
import GoSem.ClaimMapViews
import Derived.JoinedTies
import Derived.KernelRfl
namespace Go.Proofs.YtpadkogpeobboaaGreat
/- THE CELL 'sum', in the pinned program and in every row, IS THE sha256 OF THE DUMP (.gsa) THAT YtpadkogpeobboaaGreatProg.lean LOADS. Nothing in Lean hashes anything: it is a label: what it is worth is what the hold of that sum in a sandbox is worth. -/
noncomputable def Tryz.pinned : Pinned := { name := "ytpadkogpeobboaagreat", sum := "a4adefc82c7a4488079253b53b9e94b9493450a99c18011ad036df750347e8e3", checked := Tryz.checked }
namespace Rows
def none {H : Type} : Left H := { results := [], args := [] }

/-- 'laws.FnExactNodeWake': WHATEVER THE INPUT: true; the input reads as it did. -/
def fnExactNodeWakeSpec : ChangeSpec := { name := "fnExactNodeWake", fn := fun _ => fun
  | [d] => { results := [.lit (.bool true)], args := [d] }
  | _ => none }
def fnExactNodeWakeRow : OpenClaim := { program := "ytpadkogpeobboaagreat", sum := "a4adefc82c7a4488079253b53b9e94b9493450a99c18011ad036df750347e8e3", func := "loop.example/slackwater/laws.FnExactNodeWake", spec := "fnExactNodeWake", unfollowed := true, recurses := true, plainKeys := false, apart := false }
def FnExactNodeWakeSaid : Prop := fnExactNodeWakeRow.holds Tryz.pinned (OpenSpec.ofChange fnExactNodeWakeSpec)

/-- ITS FALSE NEIGHBOUR: 'it returns false'. Refute it at one input. -/
def fnExactNodeWakeWrong : ChangeSpec := { name := "fnExactNodeWake", fn := fun _ => fun
  | [d] => { results := [.lit (.bool false)], args := [d] }
  | _ => none }
def FnExactNodeWakeWrongFalsely : Prop := fnExactNodeWakeRow.holds Tryz.pinned (OpenSpec.ofChange fnExactNodeWakeWrong)

/-- 'laws.FnExactNodeTend': WHATEVER THE INPUT: true; the input reads as it did. -/
def fnExactNodeTendSpec : ChangeSpec := { name := "fnExactNodeTend", fn := fun _ => fun
  | [d] => { results := [.lit (.bool true)], args := [d] }
  | _ => none }
def fnExactNodeTendRow : OpenClaim := { program := "ytpadkogpeobboaagreat", sum := "a4adefc82c7a4488079253b53b9e94b9493450a99c18011ad036df750347e8e3", func := "loop.example/slackwater/laws.FnExactNodeTend", spec := "fnExactNodeTend", unfollowed := true, recurses := true, plainKeys := false, apart := false }
def FnExactNodeTendSaid : Prop := fnExactNodeTendRow.holds Tryz.pinned (OpenSpec.ofChange fnExactNodeTendSpec)

/-- ITS FALSE NEIGHBOUR: 'it returns false'. Refute it at one input. -/
def fnExactNodeTendWrong : ChangeSpec := { name := "fnExactNodeTend", fn := fun _ => fun
  | [d] => { results := [.lit (.bool false)], args := [d] }
  | _ => none }
def FnExactNodeTendWrongFalsely : Prop := fnExactNodeTendRow.holds Tryz.pinned (OpenSpec.ofChange fnExactNodeTendWrong)

/-- 'laws.FnExactNodeFall': WHATEVER THE INPUT: true; the input reads as it did. -/
def fnExactNodeFallSpec : ChangeSpec := { name := "fnExactNodeFall", fn := fun _ => fun
  | [d] => { results := [.lit (.bool true)], args := [d] }
  | _ => none }
def fnExactNodeFallRow : OpenClaim := { program := "ytpadkogpeobboaagreat", sum := "a4adefc82c7a4488079253b53b9e94b9493450a99c18011ad036df750347e8e3", func := "loop.example/slackwater/laws.FnExactNodeFall", spec := "fnExactNodeFall", unfollowed := true, recurses := true, plainKeys := false, apart := false }
def FnExactNodeFallSaid : Prop := fnExactNodeFallRow.holds Tryz.pinned (OpenSpec.ofChange fnExactNodeFallSpec)

/-- ITS FALSE NEIGHBOUR: 'it returns false'. Refute it at one input. -/
def fnExactNodeFallWrong : ChangeSpec := { name := "fnExactNodeFall", fn := fun _ => fun
  | [d] => { results := [.lit (.bool false)], args := [d] }
  | _ => none }
def FnExactNodeFallWrongFalsely : Prop := fnExactNodeFallRow.holds Tryz.pinned (OpenSpec.ofChange fnExactNodeFallWrong)

/-- 'laws.FnExactNodeRise': WHATEVER THE INPUT: true; the input reads as it did. -/
def fnExactNodeRiseSpec : ChangeSpec := { name := "fnExactNodeRise", fn := fun _ => fun
  | [d] => { results := [.lit (.bool true)], args := [d] }
  | _ => none }
def fnExactNodeRiseRow : OpenClaim := { program := "ytpadkogpeobboaagreat", sum := "a4adefc82c7a4488079253b53b9e94b9493450a99c18011ad036df750347e8e3", func := "loop.example/slackwater/laws.FnExactNodeRise", spec := "fnExactNodeRise", unfollowed := true, recurses := true, plainKeys := false, apart := false }
def FnExactNodeRiseSaid : Prop := fnExactNodeRiseRow.holds Tryz.pinned (OpenSpec.ofChange fnExactNodeRiseSpec)

/-- ITS FALSE NEIGHBOUR: 'it returns false'. Refute it at one input. -/
def fnExactNodeRiseWrong : ChangeSpec := { name := "fnExactNodeRise", fn := fun _ => fun
  | [d] => { results := [.lit (.bool false)], args := [d] }
  | _ => none }
def FnExactNodeRiseWrongFalsely : Prop := fnExactNodeRiseRow.holds Tryz.pinned (OpenSpec.ofChange fnExactNodeRiseWrong)

/-- 'laws.FnExactNodeReport': WHATEVER THE INPUT: true; the input reads as it did. -/
def fnExactNodeReportSpec : ChangeSpec := { name := "fnExactNodeReport", fn := fun _ => fun
  | [d1, d2] => { results := [.lit (.bool true)], args := [d1, d2] }
  | _ => none }
def fnExactNodeReportRow : OpenClaim := { program := "ytpadkogpeobboaagreat", sum := "a4adefc82c7a4488079253b53b9e94b9493450a99c18011ad036df750347e8e3", func := "loop.example/slackwater/laws.FnExactNodeReport", spec := "fnExactNodeReport", unfollowed := true, recurses := true, plainKeys := false, apart := false }
def FnExactNodeReportSaid : Prop := fnExactNodeReportRow.holds Tryz.pinned (OpenSpec.ofChange fnExactNodeReportSpec)

/-- ITS FALSE NEIGHBOUR: 'it returns false'. Refute it at one input. -/
def fnExactNodeReportWrong : ChangeSpec := { name := "fnExactNodeReport", fn := fun _ => fun
  | [d1, d2] => { results := [.lit (.bool false)], args := [d1, d2] }
  | _ => none }
def FnExactNodeReportWrongFalsely : Prop := fnExactNodeReportRow.holds Tryz.pinned (OpenSpec.ofChange fnExactNodeReportWrong)

/-- 'laws.FnExactNodeSettle': WHATEVER THE INPUT: true; the input reads as it did. -/
def fnExactNodeSettleSpec : ChangeSpec := { name := "fnExactNodeSettle", fn := fun _ => fun
  | [d1, d2, d3] => { results := [.lit (.bool true)], args := [d1, d2, d3] }
  | _ => none }
def fnExactNodeSettleRow : OpenClaim := { program := "ytpadkogpeobboaagreat", sum := "a4adefc82c7a4488079253b53b9e94b9493450a99c18011ad036df750347e8e3", func := "loop.example/slackwater/laws.FnExactNodeSettle", spec := "fnExactNodeSettle", unfollowed := true, recurses := true, plainKeys := false, apart := false }
def FnExactNodeSettleSaid : Prop := fnExactNodeSettleRow.holds Tryz.pinned (OpenSpec.ofChange fnExactNodeSettleSpec)

/-- ITS FALSE NEIGHBOUR: 'it returns false'. Refute it at one input. -/
def fnExactNodeSettleWrong : ChangeSpec := { name := "fnExactNodeSettle", fn := fun _ => fun
  | [d1, d2, d3] => { results := [.lit (.bool false)], args := [d1, d2, d3] }
  | _ => none }
def FnExactNodeSettleWrongFalsely : Prop := fnExactNodeSettleRow.holds Tryz.pinned (OpenSpec.ofChange fnExactNodeSettleWrong)

/-- 'laws.FnLaneSettle': WHATEVER THE INPUT: true; the input reads as it did. -/
def fnLaneSettleSpec : ChangeSpec := { name := "fnLaneSettle", fn := fun _ => fun
  | [d] => { results := [.lit (.bool true)], args := [d] }
  | _ => none }
def fnLaneSettleRow : OpenClaim := { program := "ytpadkogpeobboaagreat", sum := "a4adefc82c7a4488079253b53b9e94b9493450a99c18011ad036df750347e8e3", func := "loop.example/slackwater/laws.FnLaneSettle", spec := "fnLaneSettle", unfollowed := true, recurses := true, plainKeys := false, apart := false }
def FnLaneSettleSaid : Prop := fnLaneSettleRow.holds Tryz.pinned (OpenSpec.ofChange fnLaneSettleSpec)

/-- ITS FALSE NEIGHBOUR: 'it returns false'. Refute it at one input. -/
def fnLaneSettleWrong : ChangeSpec := { name := "fnLaneSettle", fn := fun _ => fun
  | [d] => { results := [.lit (.bool false)], args := [d] }
  | _ => none }
def FnLaneSettleWrongFalsely : Prop := fnLaneSettleRow.holds Tryz.pinned (OpenSpec.ofChange fnLaneSettleWrong)

/-- 'laws.FnExactNodeView': WHATEVER THE INPUT: true; the input reads as it did. -/
def fnExactNodeViewSpec : ChangeSpec := { name := "fnExactNodeView", fn := fun _ => fun
  | [d1, d2, d3, d4, d5, d6] => { results := [.lit (.bool true)], args := [d1, d2, d3, d4, d5, d6] }
  | _ => none }
def fnExactNodeViewRow : OpenClaim := { program := "ytpadkogpeobboaagreat", sum := "a4adefc82c7a4488079253b53b9e94b9493450a99c18011ad036df750347e8e3", func := "loop.example/slackwater/laws.FnExactNodeView", spec := "fnExactNodeView", unfollowed := true, recurses := true, plainKeys := false, apart := false }
def FnExactNodeViewSaid : Prop := fnExactNodeViewRow.holds Tryz.pinned (OpenSpec.ofChange fnExactNodeViewSpec)

/-- ITS FALSE NEIGHBOUR: 'it returns false'. Refute it at one input. -/
def fnExactNodeViewWrong : ChangeSpec := { name := "fnExactNodeView", fn := fun _ => fun
  | [d1, d2, d3, d4, d5, d6] => { results := [.lit (.bool false)], args := [d1, d2, d3, d4, d5, d6] }
  | _ => none }
def FnExactNodeViewWrongFalsely : Prop := fnExactNodeViewRow.holds Tryz.pinned (OpenSpec.ofChange fnExactNodeViewWrong)

/-- 'laws.FnNodeCame': WHATEVER THE INPUT: true; the input reads as it did. -/
def fnNodeCameSpec : ChangeSpec := { name := "fnNodeCame", fn := fun _ => fun
  | [d] => { results := [.lit (.bool true)], args := [d] }
  | _ => none }
def fnNodeCameRow : OpenClaim := { program := "ytpadkogpeobboaagreat", sum := "a4adefc82c7a4488079253b53b9e94b9493450a99c18011ad036df750347e8e3", func := "loop.example/slackwater/laws.FnNodeCame", spec := "fnNodeCame", unfollowed := true, recurses := true, plainKeys := false, apart := false }
def FnNodeCameSaid : Prop := fnNodeCameRow.holds Tryz.pinned (OpenSpec.ofChange fnNodeCameSpec)

/-- ITS FALSE NEIGHBOUR: 'it returns false'. Refute it at one input. -/
def fnNodeCameWrong : ChangeSpec := { name := "fnNodeCame", fn := fun _ => fun
  | [d] => { results := [.lit (.bool false)], args := [d] }
  | _ => none }
def FnNodeCameWrongFalsely : Prop := fnNodeCameRow.holds Tryz.pinned (OpenSpec.ofChange fnNodeCameWrong)

/-- 'laws.FnNodeTells': WHATEVER THE INPUT: true; the input reads as it did. -/
def fnNodeTellsSpec : ChangeSpec := { name := "fnNodeTells", fn := fun _ => fun
  | [d] => { results := [.lit (.bool true)], args := [d] }
  | _ => none }
def fnNodeTellsRow : OpenClaim := { program := "ytpadkogpeobboaagreat", sum := "a4adefc82c7a4488079253b53b9e94b9493450a99c18011ad036df750347e8e3", func := "loop.example/slackwater/laws.FnNodeTells", spec := "fnNodeTells", unfollowed := true, recurses := true, plainKeys := false, apart := false }
def FnNodeTellsSaid : Prop := fnNodeTellsRow.holds Tryz.pinned (OpenSpec.ofChange fnNodeTellsSpec)

/-- ITS FALSE NEIGHBOUR: 'it returns false'. Refute it at one input. -/
def fnNodeTellsWrong : ChangeSpec := { name := "fnNodeTells", fn := fun _ => fun
  | [d] => { results := [.lit (.bool false)], args := [d] }
  | _ => none }
def FnNodeTellsWrongFalsely : Prop := fnNodeTellsRow.holds Tryz.pinned (OpenSpec.ofChange fnNodeTellsWrong)

/-- 'laws.FnNodeMin': WHATEVER THE INPUT: true; the input reads as it did. -/
def fnNodeMinSpec : ChangeSpec := { name := "fnNodeMin", fn := fun _ => fun
  | [d] => { results := [.lit (.bool true)], args := [d] }
  | _ => none }
def fnNodeMinRow : OpenClaim := { program := "ytpadkogpeobboaagreat", sum := "a4adefc82c7a4488079253b53b9e94b9493450a99c18011ad036df750347e8e3", func := "loop.example/slackwater/laws.FnNodeMin", spec := "fnNodeMin", unfollowed := true, recurses := true, plainKeys := false, apart := false }
def FnNodeMinSaid : Prop := fnNodeMinRow.holds Tryz.pinned (OpenSpec.ofChange fnNodeMinSpec)

/-- ITS FALSE NEIGHBOUR: 'it returns false'. Refute it at one input. -/
def fnNodeMinWrong : ChangeSpec := { name := "fnNodeMin", fn := fun _ => fun
  | [d] => { results := [.lit (.bool false)], args := [d] }
  | _ => none }
def FnNodeMinWrongFalsely : Prop := fnNodeMinRow.holds Tryz.pinned (OpenSpec.ofChange fnNodeMinWrong)

/-- 'laws.FnNodeTend': WHATEVER THE INPUT: true; the input reads as it did. -/
def fnNodeTendSpec : ChangeSpec := { name := "fnNodeTend", fn := fun _ => fun
  | [d] => { results := [.lit (.bool true)], args := [d] }
  | _ => none }
def fnNodeTendRow : OpenClaim := { program := "ytpadkogpeobboaagreat", sum := "a4adefc82c7a4488079253b53b9e94b9493450a99c18011ad036df750347e8e3", func := "loop.example/slackwater/laws.FnNodeTend", spec := "fnNodeTend", unfollowed := true, recurses := true, plainKeys := false, apart := false }
def FnNodeTendSaid : Prop := fnNodeTendRow.holds Tryz.pinned (OpenSpec.ofChange fnNodeTendSpec)

/-- ITS FALSE NEIGHBOUR: 'it returns false'. Refute it at one input. -/
def fnNodeTendWrong : ChangeSpec := { name := "fnNodeTend", fn := fun _ => fun
  | [d] => { results := [.lit (.bool false)], args := [d] }
  | _ => none }
def FnNodeTendWrongFalsely : Prop := fnNodeTendRow.holds Tryz.pinned (OpenSpec.ofChange fnNodeTendWrong)

/- THE SECOND FORM. 'bulk': how many values and letters a reading holds, each counted each time it is reached (what is shared counts as often as it is met; a slice's spare places count too). A statement '..UptoSaid' is the law's where the arguments, and the package variables that the reading takes, are together of bulk at most 1048576: NARROWER than '..Said'. Prove '..Said' where nothing that the law and all that it calls make is longer than what came in: it says more and counts as full. Else prove '..UptoSaid'. A law counts once. -/
mutual
def uptoBulk {H : Type} : DataW H → Nat
  | .lit (.string bytes) => bytes.length + 1
  | .lit _ => 1
  | .nil => 1
  | .ptr d => uptoBulk d + 1
  | .slice elems spare => uptoBulkAll elems + uptoBulkAll spare + 1
  | .agg parts => uptoBulkAll parts + 1
  | .iface _ d => uptoBulk d + 1
  | .map entries => uptoBulkEntries entries + 1
  | .held _ => 1
def uptoBulkAll {H : Type} : List (DataW H) → Nat
  | [] => 0
  | d :: r => uptoBulk d + uptoBulkAll r
def uptoBulkEntries {H : Type} : List (Lit × DataW H) → Nat
  | [] => 0
  | x :: r => uptoBulkEntry x + uptoBulkEntries r
def uptoBulkEntry {H : Type} : Lit × DataW H → Nat
  | (.string bytes, d) => bytes.length + uptoBulk d + 1
  | (_, d) => uptoBulk d + 1
 end
def uptoSmall : (H : Type) → List (DataW H) → Bool := fun _ ds => decide (uptoBulkAll ds ≤ 1048576)
def OpenSpec.upto (s : _root_.Go.ChangeSpec) : _root_.Go.OpenSpec := { _root_.Go.OpenSpec.ofChange s with cond := some uptoSmall }

/-- 'laws.FnExactNodeWake', WHERE WHAT IT READS IS OF BULK AT MOST 1048576: true; the input reads as it did. -/
def fnExactNodeWakeUptoRow : OpenClaim := { program := "ytpadkogpeobboaagreat", sum := "a4adefc82c7a4488079253b53b9e94b9493450a99c18011ad036df750347e8e3", func := "loop.example/slackwater/laws.FnExactNodeWake", spec := "fnExactNodeWake", unfollowed := true, recurses := true, plainKeys := false, apart := false, narrowed := true }
def FnExactNodeWakeUptoSaid : Prop := fnExactNodeWakeUptoRow.holds Tryz.pinned (OpenSpec.upto fnExactNodeWakeSpec)

/-- 'laws.FnExactNodeTend', WHERE WHAT IT READS IS OF BULK AT MOST 1048576: true; the input reads as it did. -/
def fnExactNodeTendUptoRow : OpenClaim := { program := "ytpadkogpeobboaagreat", sum := "a4adefc82c7a4488079253b53b9e94b9493450a99c18011ad036df750347e8e3", func := "loop.example/slackwater/laws.FnExactNodeTend", spec := "fnExactNodeTend", unfollowed := true, recurses := true, plainKeys := false, apart := false, narrowed := true }
def FnExactNodeTendUptoSaid : Prop := fnExactNodeTendUptoRow.holds Tryz.pinned (OpenSpec.upto fnExactNodeTendSpec)

/-- 'laws.FnExactNodeFall', WHERE WHAT IT READS IS OF BULK AT MOST 1048576: true; the input reads as it did. -/
def fnExactNodeFallUptoRow : OpenClaim := { program := "ytpadkogpeobboaagreat", sum := "a4adefc82c7a4488079253b53b9e94b9493450a99c18011ad036df750347e8e3", func := "loop.example/slackwater/laws.FnExactNodeFall", spec := "fnExactNodeFall", unfollowed := true, recurses := true, plainKeys := false, apart := false, narrowed := true }
def FnExactNodeFallUptoSaid : Prop := fnExactNodeFallUptoRow.holds Tryz.pinned (OpenSpec.upto fnExactNodeFallSpec)

/-- 'laws.FnExactNodeRise', WHERE WHAT IT READS IS OF BULK AT MOST 1048576: true; the input reads as it did. -/
def fnExactNodeRiseUptoRow : OpenClaim := { program := "ytpadkogpeobboaagreat", sum := "a4adefc82c7a4488079253b53b9e94b9493450a99c18011ad036df750347e8e3", func := "loop.example/slackwater/laws.FnExactNodeRise", spec := "fnExactNodeRise", unfollowed := true, recurses := true, plainKeys := false, apart := false, narrowed := true }
def FnExactNodeRiseUptoSaid : Prop := fnExactNodeRiseUptoRow.holds Tryz.pinned (OpenSpec.upto fnExactNodeRiseSpec)

/-- 'laws.FnExactNodeReport', WHERE WHAT IT READS IS OF BULK AT MOST 1048576: true; the input reads as it did. -/
def fnExactNodeReportUptoRow : OpenClaim := { program := "ytpadkogpeobboaagreat", sum := "a4adefc82c7a4488079253b53b9e94b9493450a99c18011ad036df750347e8e3", func := "loop.example/slackwater/laws.FnExactNodeReport", spec := "fnExactNodeReport", unfollowed := true, recurses := true, plainKeys := false, apart := false, narrowed := true }
def FnExactNodeReportUptoSaid : Prop := fnExactNodeReportUptoRow.holds Tryz.pinned (OpenSpec.upto fnExactNodeReportSpec)

/-- 'laws.FnExactNodeSettle', WHERE WHAT IT READS IS OF BULK AT MOST 1048576: true; the input reads as it did. -/
def fnExactNodeSettleUptoRow : OpenClaim := { program := "ytpadkogpeobboaagreat", sum := "a4adefc82c7a4488079253b53b9e94b9493450a99c18011ad036df750347e8e3", func := "loop.example/slackwater/laws.FnExactNodeSettle", spec := "fnExactNodeSettle", unfollowed := true, recurses := true, plainKeys := false, apart := false, narrowed := true }
def FnExactNodeSettleUptoSaid : Prop := fnExactNodeSettleUptoRow.holds Tryz.pinned (OpenSpec.upto fnExactNodeSettleSpec)

/-- 'laws.FnLaneSettle', WHERE WHAT IT READS IS OF BULK AT MOST 1048576: true; the input reads as it did. -/
def fnLaneSettleUptoRow : OpenClaim := { program := "ytpadkogpeobboaagreat", sum := "a4adefc82c7a4488079253b53b9e94b9493450a99c18011ad036df750347e8e3", func := "loop.example/slackwater/laws.FnLaneSettle", spec := "fnLaneSettle", unfollowed := true, recurses := true, plainKeys := false, apart := false, narrowed := true }
def FnLaneSettleUptoSaid : Prop := fnLaneSettleUptoRow.holds Tryz.pinned (OpenSpec.upto fnLaneSettleSpec)

/-- 'laws.FnExactNodeView', WHERE WHAT IT READS IS OF BULK AT MOST 1048576: true; the input reads as it did. -/
def fnExactNodeViewUptoRow : OpenClaim := { program := "ytpadkogpeobboaagreat", sum := "a4adefc82c7a4488079253b53b9e94b9493450a99c18011ad036df750347e8e3", func := "loop.example/slackwater/laws.FnExactNodeView", spec := "fnExactNodeView", unfollowed := true, recurses := true, plainKeys := false, apart := false, narrowed := true }
def FnExactNodeViewUptoSaid : Prop := fnExactNodeViewUptoRow.holds Tryz.pinned (OpenSpec.upto fnExactNodeViewSpec)

/-- 'laws.FnNodeCame', WHERE WHAT IT READS IS OF BULK AT MOST 1048576: true; the input reads as it did. -/
def fnNodeCameUptoRow : OpenClaim := { program := "ytpadkogpeobboaagreat", sum := "a4adefc82c7a4488079253b53b9e94b9493450a99c18011ad036df750347e8e3", func := "loop.example/slackwater/laws.FnNodeCame", spec := "fnNodeCame", unfollowed := true, recurses := true, plainKeys := false, apart := false, narrowed := true }
def FnNodeCameUptoSaid : Prop := fnNodeCameUptoRow.holds Tryz.pinned (OpenSpec.upto fnNodeCameSpec)

/-- 'laws.FnNodeTells', WHERE WHAT IT READS IS OF BULK AT MOST 1048576: true; the input reads as it did. -/
def fnNodeTellsUptoRow : OpenClaim := { program := "ytpadkogpeobboaagreat", sum := "a4adefc82c7a4488079253b53b9e94b9493450a99c18011ad036df750347e8e3", func := "loop.example/slackwater/laws.FnNodeTells", spec := "fnNodeTells", unfollowed := true, recurses := true, plainKeys := false, apart := false, narrowed := true }
def FnNodeTellsUptoSaid : Prop := fnNodeTellsUptoRow.holds Tryz.pinned (OpenSpec.upto fnNodeTellsSpec)

/-- 'laws.FnNodeMin', WHERE WHAT IT READS IS OF BULK AT MOST 1048576: true; the input reads as it did. -/
def fnNodeMinUptoRow : OpenClaim := { program := "ytpadkogpeobboaagreat", sum := "a4adefc82c7a4488079253b53b9e94b9493450a99c18011ad036df750347e8e3", func := "loop.example/slackwater/laws.FnNodeMin", spec := "fnNodeMin", unfollowed := true, recurses := true, plainKeys := false, apart := false, narrowed := true }
def FnNodeMinUptoSaid : Prop := fnNodeMinUptoRow.holds Tryz.pinned (OpenSpec.upto fnNodeMinSpec)

/-- 'laws.FnNodeTend', WHERE WHAT IT READS IS OF BULK AT MOST 1048576: true; the input reads as it did. -/
def fnNodeTendUptoRow : OpenClaim := { program := "ytpadkogpeobboaagreat", sum := "a4adefc82c7a4488079253b53b9e94b9493450a99c18011ad036df750347e8e3", func := "loop.example/slackwater/laws.FnNodeTend", spec := "fnNodeTend", unfollowed := true, recurses := true, plainKeys := false, apart := false, narrowed := true }
def FnNodeTendUptoSaid : Prop := fnNodeTendUptoRow.holds Tryz.pinned (OpenSpec.upto fnNodeTendSpec)

end Rows
end Go.Proofs.YtpadkogpeobboaaGreat
