/-
  No cell of these rows narrows 'for every input' (looked for: loops, veiled, ifaces, maps, wideKeys, modest, calm, conditions, laid).
  DERIVED. THE GIVEN ROWS OF THIS SEAT. 12 by the template 'for every input the law returns true; each argument reads behind the call as it read before'; 0 by the template 'total and deterministic' (their statements: YtlgknoapdbpojaaGreatTotals.lean).
  GIVEN WITH THE SEED: the statements are not yours to turn. If you find one false, say at which input.
  Laid BY PROGRAM, IN A SANDBOX (cutbox-rows.mjs): the forced cells as the released guide's own fill.sh prints them over the translation bd7ec8b00ccd5f6b… (all of the seat's roots in one cut). By AI agents, Wed Nov 11 2026. No macro, syntax, notation, axiom, sorry.
-/
import Derived.Test.YtlgknoapdbpojaaGreatChecked
import GoSem.Claim
import GoSem.ClaimJoined
import GoSem.ClaimMapViews
import Derived.JoinedTies
import Derived.KernelRfl
namespace Go.Proofs.YtlgknoapdbpojaaGreat
/- THE CELL 'sum', in the pinned program and in every row, IS THE sha256 OF THE DUMP (.gsa) THAT YtlgknoapdbpojaaGreatProg.lean LOADS. Nothing in Lean hashes anything: it is a label: what it is worth is what the hold of that sum in a sandbox is worth. -/
noncomputable def Tryz.pinned : Pinned := { name := "ytlgknoapdbpojaagreat", sum := "bd7ec8b00ccd5f6b58a3addbefcfa41a0630f1a3acdf40189546bcfe06515b13", checked := Tryz.checked }
namespace Rows
def none {H : Type} : Left H := { results := [], args := [] }

/-- 'laws.FnExactTideStart': WHATEVER THE INPUT: true; the input reads as it did. -/
def fnExactTideStartSpec : ChangeSpec := { name := "fnExactTideStart", fn := fun _ => fun
  | [d] => { results := [.lit (.bool true)], args := [d] }
  | _ => none }
def fnExactTideStartRow : OpenClaim := { program := "ytlgknoapdbpojaagreat", sum := "bd7ec8b00ccd5f6b58a3addbefcfa41a0630f1a3acdf40189546bcfe06515b13", func := "loop.example/slackwater/laws.FnExactTideStart", spec := "fnExactTideStart", unfollowed := true, recurses := true, plainKeys := false, apart := false }
def FnExactTideStartSaid : Prop := fnExactTideStartRow.holds Tryz.pinned (OpenSpec.ofChange fnExactTideStartSpec)

/-- ITS FALSE NEIGHBOUR: 'it returns false'. Refute it at one input. -/
def fnExactTideStartWrong : ChangeSpec := { name := "fnExactTideStart", fn := fun _ => fun
  | [d] => { results := [.lit (.bool false)], args := [d] }
  | _ => none }
def FnExactTideStartWrongFalsely : Prop := fnExactTideStartRow.holds Tryz.pinned (OpenSpec.ofChange fnExactTideStartWrong)

/-- 'laws.FnLaneSettle': WHATEVER THE INPUT: true; the input reads as it did. -/
def fnLaneSettleSpec : ChangeSpec := { name := "fnLaneSettle", fn := fun _ => fun
  | [d] => { results := [.lit (.bool true)], args := [d] }
  | _ => none }
def fnLaneSettleRow : OpenClaim := { program := "ytlgknoapdbpojaagreat", sum := "bd7ec8b00ccd5f6b58a3addbefcfa41a0630f1a3acdf40189546bcfe06515b13", func := "loop.example/slackwater/laws.FnLaneSettle", spec := "fnLaneSettle", unfollowed := true, recurses := true, plainKeys := false, apart := false }
def FnLaneSettleSaid : Prop := fnLaneSettleRow.holds Tryz.pinned (OpenSpec.ofChange fnLaneSettleSpec)

/-- ITS FALSE NEIGHBOUR: 'it returns false'. Refute it at one input. -/
def fnLaneSettleWrong : ChangeSpec := { name := "fnLaneSettle", fn := fun _ => fun
  | [d] => { results := [.lit (.bool false)], args := [d] }
  | _ => none }
def FnLaneSettleWrongFalsely : Prop := fnLaneSettleRow.holds Tryz.pinned (OpenSpec.ofChange fnLaneSettleWrong)

/-- 'laws.FnNodeCame': WHATEVER THE INPUT: true; the input reads as it did. -/
def fnNodeCameSpec : ChangeSpec := { name := "fnNodeCame", fn := fun _ => fun
  | [d] => { results := [.lit (.bool true)], args := [d] }
  | _ => none }
def fnNodeCameRow : OpenClaim := { program := "ytlgknoapdbpojaagreat", sum := "bd7ec8b00ccd5f6b58a3addbefcfa41a0630f1a3acdf40189546bcfe06515b13", func := "loop.example/slackwater/laws.FnNodeCame", spec := "fnNodeCame", unfollowed := true, recurses := true, plainKeys := false, apart := false }
def FnNodeCameSaid : Prop := fnNodeCameRow.holds Tryz.pinned (OpenSpec.ofChange fnNodeCameSpec)

/-- ITS FALSE NEIGHBOUR: 'it returns false'. Refute it at one input. -/
def fnNodeCameWrong : ChangeSpec := { name := "fnNodeCame", fn := fun _ => fun
  | [d] => { results := [.lit (.bool false)], args := [d] }
  | _ => none }
def FnNodeCameWrongFalsely : Prop := fnNodeCameRow.holds Tryz.pinned (OpenSpec.ofChange fnNodeCameWrong)

/-- 'laws.FnNodeTells': WHATEVER THE INPUT: true; the input reads as it did. -/
def fnNodeTellsSpec : ChangeSpec := { name := "fnNodeTells", fn := fun _ => fun
  | [d] => { results := [.lit (.bool true)], args := [d] }
  | _ => none }
def fnNodeTellsRow : OpenClaim := { program := "ytlgknoapdbpojaagreat", sum := "bd7ec8b00ccd5f6b58a3addbefcfa41a0630f1a3acdf40189546bcfe06515b13", func := "loop.example/slackwater/laws.FnNodeTells", spec := "fnNodeTells", unfollowed := true, recurses := true, plainKeys := false, apart := false }
def FnNodeTellsSaid : Prop := fnNodeTellsRow.holds Tryz.pinned (OpenSpec.ofChange fnNodeTellsSpec)

/-- ITS FALSE NEIGHBOUR: 'it returns false'. Refute it at one input. -/
def fnNodeTellsWrong : ChangeSpec := { name := "fnNodeTells", fn := fun _ => fun
  | [d] => { results := [.lit (.bool false)], args := [d] }
  | _ => none }
def FnNodeTellsWrongFalsely : Prop := fnNodeTellsRow.holds Tryz.pinned (OpenSpec.ofChange fnNodeTellsWrong)

/-- 'laws.FnNodeMin': WHATEVER THE INPUT: true; the input reads as it did. -/
def fnNodeMinSpec : ChangeSpec := { name := "fnNodeMin", fn := fun _ => fun
  | [d] => { results := [.lit (.bool true)], args := [d] }
  | _ => none }
def fnNodeMinRow : OpenClaim := { program := "ytlgknoapdbpojaagreat", sum := "bd7ec8b00ccd5f6b58a3addbefcfa41a0630f1a3acdf40189546bcfe06515b13", func := "loop.example/slackwater/laws.FnNodeMin", spec := "fnNodeMin", unfollowed := true, recurses := true, plainKeys := false, apart := false }
def FnNodeMinSaid : Prop := fnNodeMinRow.holds Tryz.pinned (OpenSpec.ofChange fnNodeMinSpec)

/-- ITS FALSE NEIGHBOUR: 'it returns false'. Refute it at one input. -/
def fnNodeMinWrong : ChangeSpec := { name := "fnNodeMin", fn := fun _ => fun
  | [d] => { results := [.lit (.bool false)], args := [d] }
  | _ => none }
def FnNodeMinWrongFalsely : Prop := fnNodeMinRow.holds Tryz.pinned (OpenSpec.ofChange fnNodeMinWrong)

/-- 'laws.FnNodeTend': WHATEVER THE INPUT: true; the input reads as it did. -/
def fnNodeTendSpec : ChangeSpec := { name := "fnNodeTend", fn := fun _ => fun
  | [d] => { results := [.lit (.bool true)], args := [d] }
  | _ => none }
def fnNodeTendRow : OpenClaim := { program := "ytlgknoapdbpojaagreat", sum := "bd7ec8b00ccd5f6b58a3addbefcfa41a0630f1a3acdf40189546bcfe06515b13", func := "loop.example/slackwater/laws.FnNodeTend", spec := "fnNodeTend", unfollowed := true, recurses := true, plainKeys := false, apart := false }
def FnNodeTendSaid : Prop := fnNodeTendRow.holds Tryz.pinned (OpenSpec.ofChange fnNodeTendSpec)

/-- ITS FALSE NEIGHBOUR: 'it returns false'. Refute it at one input. -/
def fnNodeTendWrong : ChangeSpec := { name := "fnNodeTend", fn := fun _ => fun
  | [d] => { results := [.lit (.bool false)], args := [d] }
  | _ => none }
def FnNodeTendWrongFalsely : Prop := fnNodeTendRow.holds Tryz.pinned (OpenSpec.ofChange fnNodeTendWrong)

/-- 'laws.FnNodeFall': WHATEVER THE INPUT: true; the input reads as it did. -/
def fnNodeFallSpec : ChangeSpec := { name := "fnNodeFall", fn := fun _ => fun
  | [d] => { results := [.lit (.bool true)], args := [d] }
  | _ => none }
def fnNodeFallRow : OpenClaim := { program := "ytlgknoapdbpojaagreat", sum := "bd7ec8b00ccd5f6b58a3addbefcfa41a0630f1a3acdf40189546bcfe06515b13", func := "loop.example/slackwater/laws.FnNodeFall", spec := "fnNodeFall", unfollowed := true, recurses := true, plainKeys := false, apart := false }
def FnNodeFallSaid : Prop := fnNodeFallRow.holds Tryz.pinned (OpenSpec.ofChange fnNodeFallSpec)

/-- ITS FALSE NEIGHBOUR: 'it returns false'. Refute it at one input. -/
def fnNodeFallWrong : ChangeSpec := { name := "fnNodeFall", fn := fun _ => fun
  | [d] => { results := [.lit (.bool false)], args := [d] }
  | _ => none }
def FnNodeFallWrongFalsely : Prop := fnNodeFallRow.holds Tryz.pinned (OpenSpec.ofChange fnNodeFallWrong)

/-- 'laws.FnNodeReport': WHATEVER THE INPUT: true; the input reads as it did. -/
def fnNodeReportSpec : ChangeSpec := { name := "fnNodeReport", fn := fun _ => fun
  | [d] => { results := [.lit (.bool true)], args := [d] }
  | _ => none }
def fnNodeReportRow : OpenClaim := { program := "ytlgknoapdbpojaagreat", sum := "bd7ec8b00ccd5f6b58a3addbefcfa41a0630f1a3acdf40189546bcfe06515b13", func := "loop.example/slackwater/laws.FnNodeReport", spec := "fnNodeReport", unfollowed := true, recurses := true, plainKeys := false, apart := false }
def FnNodeReportSaid : Prop := fnNodeReportRow.holds Tryz.pinned (OpenSpec.ofChange fnNodeReportSpec)

/-- ITS FALSE NEIGHBOUR: 'it returns false'. Refute it at one input. -/
def fnNodeReportWrong : ChangeSpec := { name := "fnNodeReport", fn := fun _ => fun
  | [d] => { results := [.lit (.bool false)], args := [d] }
  | _ => none }
def FnNodeReportWrongFalsely : Prop := fnNodeReportRow.holds Tryz.pinned (OpenSpec.ofChange fnNodeReportWrong)

/-- 'laws.FnNodeSettle': WHATEVER THE INPUT: true; the input reads as it did. -/
def fnNodeSettleSpec : ChangeSpec := { name := "fnNodeSettle", fn := fun _ => fun
  | [d] => { results := [.lit (.bool true)], args := [d] }
  | _ => none }
def fnNodeSettleRow : OpenClaim := { program := "ytlgknoapdbpojaagreat", sum := "bd7ec8b00ccd5f6b58a3addbefcfa41a0630f1a3acdf40189546bcfe06515b13", func := "loop.example/slackwater/laws.FnNodeSettle", spec := "fnNodeSettle", unfollowed := true, recurses := true, plainKeys := false, apart := false }
def FnNodeSettleSaid : Prop := fnNodeSettleRow.holds Tryz.pinned (OpenSpec.ofChange fnNodeSettleSpec)

/-- ITS FALSE NEIGHBOUR: 'it returns false'. Refute it at one input. -/
def fnNodeSettleWrong : ChangeSpec := { name := "fnNodeSettle", fn := fun _ => fun
  | [d] => { results := [.lit (.bool false)], args := [d] }
  | _ => none }
def FnNodeSettleWrongFalsely : Prop := fnNodeSettleRow.holds Tryz.pinned (OpenSpec.ofChange fnNodeSettleWrong)

/-- 'laws.FnNodeAgain': WHATEVER THE INPUT: true; the input reads as it did. -/
def fnNodeAgainSpec : ChangeSpec := { name := "fnNodeAgain", fn := fun _ => fun
  | [d] => { results := [.lit (.bool true)], args := [d] }
  | _ => none }
def fnNodeAgainRow : OpenClaim := { program := "ytlgknoapdbpojaagreat", sum := "bd7ec8b00ccd5f6b58a3addbefcfa41a0630f1a3acdf40189546bcfe06515b13", func := "loop.example/slackwater/laws.FnNodeAgain", spec := "fnNodeAgain", unfollowed := true, recurses := true, plainKeys := false, apart := false }
def FnNodeAgainSaid : Prop := fnNodeAgainRow.holds Tryz.pinned (OpenSpec.ofChange fnNodeAgainSpec)

/-- ITS FALSE NEIGHBOUR: 'it returns false'. Refute it at one input. -/
def fnNodeAgainWrong : ChangeSpec := { name := "fnNodeAgain", fn := fun _ => fun
  | [d] => { results := [.lit (.bool false)], args := [d] }
  | _ => none }
def FnNodeAgainWrongFalsely : Prop := fnNodeAgainRow.holds Tryz.pinned (OpenSpec.ofChange fnNodeAgainWrong)

/-- 'laws.FnNodeView': WHATEVER THE INPUT: true; the input reads as it did. -/
def fnNodeViewSpec : ChangeSpec := { name := "fnNodeView", fn := fun _ => fun
  | [d] => { results := [.lit (.bool true)], args := [d] }
  | _ => none }
def fnNodeViewRow : OpenClaim := { program := "ytlgknoapdbpojaagreat", sum := "bd7ec8b00ccd5f6b58a3addbefcfa41a0630f1a3acdf40189546bcfe06515b13", func := "loop.example/slackwater/laws.FnNodeView", spec := "fnNodeView", unfollowed := true, recurses := true, plainKeys := false, apart := false }
def FnNodeViewSaid : Prop := fnNodeViewRow.holds Tryz.pinned (OpenSpec.ofChange fnNodeViewSpec)

/-- ITS FALSE NEIGHBOUR: 'it returns false'. Refute it at one input. -/
def fnNodeViewWrong : ChangeSpec := { name := "fnNodeView", fn := fun _ => fun
  | [d] => { results := [.lit (.bool false)], args := [d] }
  | _ => none }
def FnNodeViewWrongFalsely : Prop := fnNodeViewRow.holds Tryz.pinned (OpenSpec.ofChange fnNodeViewWrong)

/-- 'laws.FnExactNodeHear': WHATEVER THE INPUT: true; the input reads as it did. -/
def fnExactNodeHearSpec : ChangeSpec := { name := "fnExactNodeHear", fn := fun _ => fun
  | [d1, d2] => { results := [.lit (.bool true)], args := [d1, d2] }
  | _ => none }
def fnExactNodeHearRow : OpenClaim := { program := "ytlgknoapdbpojaagreat", sum := "bd7ec8b00ccd5f6b58a3addbefcfa41a0630f1a3acdf40189546bcfe06515b13", func := "loop.example/slackwater/laws.FnExactNodeHear", spec := "fnExactNodeHear", unfollowed := true, recurses := true, plainKeys := false, apart := false }
def FnExactNodeHearSaid : Prop := fnExactNodeHearRow.holds Tryz.pinned (OpenSpec.ofChange fnExactNodeHearSpec)

/-- ITS FALSE NEIGHBOUR: 'it returns false'. Refute it at one input. -/
def fnExactNodeHearWrong : ChangeSpec := { name := "fnExactNodeHear", fn := fun _ => fun
  | [d1, d2] => { results := [.lit (.bool false)], args := [d1, d2] }
  | _ => none }
def FnExactNodeHearWrongFalsely : Prop := fnExactNodeHearRow.holds Tryz.pinned (OpenSpec.ofChange fnExactNodeHearWrong)

/- THE SECOND FORM. 'bulk': how many values and letters a reading holds, each counted each time it is reached (what is shared counts as often as it is met; a slice's spare places count too). A statement '..UptoSaid' is the law's where the arguments, and the package variables that the reading takes, are together of bulk at most 1048576: NARROWER than '..Said'. Prove '..Said' where nothing that the law and all that it calls make is longer than what came in: it says more and counts as full. Else prove '..UptoSaid'. A law counts once. -/
mutual
def uptoBulk {H : Type} : DataW H → Nat
  | .lit (.string bytes) => bytes.length + 1
  | .lit _ => 1
  | .nil => 1
  | .ptr d => uptoBulk d + 1
  | .slice elems spare => uptoBulkAll elems + uptoBulkAll spare + 1
  | .agg parts => uptoBulkAll parts + 1
  | .iface _ d => uptoBulk d + 1
  | .map entries => uptoBulkEntries entries + 1
  | .held _ => 1
def uptoBulkAll {H : Type} : List (DataW H) → Nat
  | [] => 0
  | d :: r => uptoBulk d + uptoBulkAll r
def uptoBulkEntries {H : Type} : List (Lit × DataW H) → Nat
  | [] => 0
  | x :: r => uptoBulkEntry x + uptoBulkEntries r
def uptoBulkEntry {H : Type} : Lit × DataW H → Nat
  | (.string bytes, d) => bytes.length + uptoBulk d + 1
  | (_, d) => uptoBulk d + 1
 end
def uptoSmall : (H : Type) → List (DataW H) → Bool := fun _ ds => decide (uptoBulkAll ds ≤ 1048576)
def OpenSpec.upto (s : _root_.Go.ChangeSpec) : _root_.Go.OpenSpec := { _root_.Go.OpenSpec.ofChange s with cond := some uptoSmall }

/-- 'laws.FnExactTideStart', WHERE WHAT IT READS IS OF BULK AT MOST 1048576: true; the input reads as it did. -/
def fnExactTideStartUptoRow : OpenClaim := { program := "ytlgknoapdbpojaagreat", sum := "bd7ec8b00ccd5f6b58a3addbefcfa41a0630f1a3acdf40189546bcfe06515b13", func := "loop.example/slackwater/laws.FnExactTideStart", spec := "fnExactTideStart", unfollowed := true, recurses := true, plainKeys := false, apart := false, narrowed := true }
def FnExactTideStartUptoSaid : Prop := fnExactTideStartUptoRow.holds Tryz.pinned (OpenSpec.upto fnExactTideStartSpec)

/-- 'laws.FnLaneSettle', WHERE WHAT IT READS IS OF BULK AT MOST 1048576: true; the input reads as it did. -/
def fnLaneSettleUptoRow : OpenClaim := { program := "ytlgknoapdbpojaagreat", sum := "bd7ec8b00ccd5f6b58a3addbefcfa41a0630f1a3acdf40189546bcfe06515b13", func := "loop.example/slackwater/laws.FnLaneSettle", spec := "fnLaneSettle", unfollowed := true, recurses := true, plainKeys := false, apart := false, narrowed := true }
def FnLaneSettleUptoSaid : Prop := fnLaneSettleUptoRow.holds Tryz.pinned (OpenSpec.upto fnLaneSettleSpec)

/-- 'laws.FnNodeCame', WHERE WHAT IT READS IS OF BULK AT MOST 1048576: true; the input reads as it did. -/
def fnNodeCameUptoRow : OpenClaim := { program := "ytlgknoapdbpojaagreat", sum := "bd7ec8b00ccd5f6b58a3addbefcfa41a0630f1a3acdf40189546bcfe06515b13", func := "loop.example/slackwater/laws.FnNodeCame", spec := "fnNodeCame", unfollowed := true, recurses := true, plainKeys := false, apart := false, narrowed := true }
def FnNodeCameUptoSaid : Prop := fnNodeCameUptoRow.holds Tryz.pinned (OpenSpec.upto fnNodeCameSpec)

/-- 'laws.FnNodeTells', WHERE WHAT IT READS IS OF BULK AT MOST 1048576: true; the input reads as it did. -/
def fnNodeTellsUptoRow : OpenClaim := { program := "ytlgknoapdbpojaagreat", sum := "bd7ec8b00ccd5f6b58a3addbefcfa41a0630f1a3acdf40189546bcfe06515b13", func := "loop.example/slackwater/laws.FnNodeTells", spec := "fnNodeTells", unfollowed := true, recurses := true, plainKeys := false, apart := false, narrowed := true }
def FnNodeTellsUptoSaid : Prop := fnNodeTellsUptoRow.holds Tryz.pinned (OpenSpec.upto fnNodeTellsSpec)

/-- 'laws.FnNodeMin', WHERE WHAT IT READS IS OF BULK AT MOST 1048576: true; the input reads as it did. -/
def fnNodeMinUptoRow : OpenClaim := { program := "ytlgknoapdbpojaagreat", sum := "bd7ec8b00ccd5f6b58a3addbefcfa41a0630f1a3acdf40189546bcfe06515b13", func := "loop.example/slackwater/laws.FnNodeMin", spec := "fnNodeMin", unfollowed := true, recurses := true, plainKeys := false, apart := false, narrowed := true }
def FnNodeMinUptoSaid : Prop := fnNodeMinUptoRow.holds Tryz.pinned (OpenSpec.upto fnNodeMinSpec)

/-- 'laws.FnNodeTend', WHERE WHAT IT READS IS OF BULK AT MOST 1048576: true; the input reads as it did. -/
def fnNodeTendUptoRow : OpenClaim := { program := "ytlgknoapdbpojaagreat", sum := "bd7ec8b00ccd5f6b58a3addbefcfa41a0630f1a3acdf40189546bcfe06515b13", func := "loop.example/slackwater/laws.FnNodeTend", spec := "fnNodeTend", unfollowed := true, recurses := true, plainKeys := false, apart := false, narrowed := true }
def FnNodeTendUptoSaid : Prop := fnNodeTendUptoRow.holds Tryz.pinned (OpenSpec.upto fnNodeTendSpec)

/-- 'laws.FnNodeFall', WHERE WHAT IT READS IS OF BULK AT MOST 1048576: true; the input reads as it did. -/
def fnNodeFallUptoRow : OpenClaim := { program := "ytlgknoapdbpojaagreat", sum := "bd7ec8b00ccd5f6b58a3addbefcfa41a0630f1a3acdf40189546bcfe06515b13", func := "loop.example/slackwater/laws.FnNodeFall", spec := "fnNodeFall", unfollowed := true, recurses := true, plainKeys := false, apart := false, narrowed := true }
def FnNodeFallUptoSaid : Prop := fnNodeFallUptoRow.holds Tryz.pinned (OpenSpec.upto fnNodeFallSpec)

/-- 'laws.FnNodeReport', WHERE WHAT IT READS IS OF BULK AT MOST 1048576: true; the input reads as it did. -/
def fnNodeReportUptoRow : OpenClaim := { program := "ytlgknoapdbpojaagreat", sum := "bd7ec8b00ccd5f6b58a3addbefcfa41a0630f1a3acdf40189546bcfe06515b13", func := "loop.example/slackwater/laws.FnNodeReport", spec := "fnNodeReport", unfollowed := true, recurses := true, plainKeys := false, apart := false, narrowed := true }
def FnNodeReportUptoSaid : Prop := fnNodeReportUptoRow.holds Tryz.pinned (OpenSpec.upto fnNodeReportSpec)

/-- 'laws.FnNodeSettle', WHERE WHAT IT READS IS OF BULK AT MOST 1048576: true; the input reads as it did. -/
def fnNodeSettleUptoRow : OpenClaim := { program := "ytlgknoapdbpojaagreat", sum := "bd7ec8b00ccd5f6b58a3addbefcfa41a0630f1a3acdf40189546bcfe06515b13", func := "loop.example/slackwater/laws.FnNodeSettle", spec := "fnNodeSettle", unfollowed := true, recurses := true, plainKeys := false, apart := false, narrowed := true }
def FnNodeSettleUptoSaid : Prop := fnNodeSettleUptoRow.holds Tryz.pinned (OpenSpec.upto fnNodeSettleSpec)

/-- 'laws.FnNodeAgain', WHERE WHAT IT READS IS OF BULK AT MOST 1048576: true; the input reads as it did. -/
def fnNodeAgainUptoRow : OpenClaim := { program := "ytlgknoapdbpojaagreat", sum := "bd7ec8b00ccd5f6b58a3addbefcfa41a0630f1a3acdf40189546bcfe06515b13", func := "loop.example/slackwater/laws.FnNodeAgain", spec := "fnNodeAgain", unfollowed := true, recurses := true, plainKeys := false, apart := false, narrowed := true }
def FnNodeAgainUptoSaid : Prop := fnNodeAgainUptoRow.holds Tryz.pinned (OpenSpec.upto fnNodeAgainSpec)

/-- 'laws.FnNodeView', WHERE WHAT IT READS IS OF BULK AT MOST 1048576: true; the input reads as it did. -/
def fnNodeViewUptoRow : OpenClaim := { program := "ytlgknoapdbpojaagreat", sum := "bd7ec8b00ccd5f6b58a3addbefcfa41a0630f1a3acdf40189546bcfe06515b13", func := "loop.example/slackwater/laws.FnNodeView", spec := "fnNodeView", unfollowed := true, recurses := true, plainKeys := false, apart := false, narrowed := true }
def FnNodeViewUptoSaid : Prop := fnNodeViewUptoRow.holds Tryz.pinned (OpenSpec.upto fnNodeViewSpec)

/-- 'laws.FnExactNodeHear', WHERE WHAT IT READS IS OF BULK AT MOST 1048576: true; the input reads as it did. -/
def fnExactNodeHearUptoRow : OpenClaim := { program := "ytlgknoapdbpojaagreat", sum := "bd7ec8b00ccd5f6b58a3addbefcfa41a0630f1a3acdf40189546bcfe06515b13", func := "loop.example/slackwater/laws.FnExactNodeHear", spec := "fnExactNodeHear", unfollowed := true, recurses := true, plainKeys := false, apart := false, narrowed := true }
def FnExactNodeHearUptoSaid : Prop := fnExactNodeHearUptoRow.holds Tryz.pinned (OpenSpec.upto fnExactNodeHearSpec)

end Rows
end Go.Proofs.YtlgknoapdbpojaaGreat
