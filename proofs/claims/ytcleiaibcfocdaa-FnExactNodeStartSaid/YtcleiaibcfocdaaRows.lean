/-
  No cell of these rows narrows 'for every input' (looked for: loops, veiled, ifaces, maps, wideKeys, modest, calm, conditions, laid).
  DERIVED. THE GIVEN ROWS OF THIS SEAT. 4 by the template 'for every input the law returns true; each argument reads behind the call as it read before'; 0 by the template 'total and deterministic' (their statements: YtcleiaibcfocdaaTotals.lean).
  GIVEN WITH THE SEED: the statements are not yours to turn. If you find one false, say at which input.
  Laid BY PROGRAM, IN A SANDBOX (cutbox-rows.mjs): the forced cells as the released guide's own fill.sh prints them over the translation afa52561849a6080… (all of the seat's roots in one cut). By AI agents, Wed Nov 11 2026. No macro, syntax, notation, axiom, sorry.
-/
import Derived.Test.YtcleiaibcfocdaaChecked
import GoSem.Claim
import GoSem.ClaimJoined
import GoSem.ClaimMapViews
import Derived.JoinedTies
import Derived.KernelRfl
namespace Go.Proofs.Ytcleiaibcfocdaa
/- THE CELL 'sum', in the pinned program and in every row, IS THE sha256 OF THE DUMP (.gsa) THAT YtcleiaibcfocdaaProg.lean LOADS. Nothing in Lean hashes anything: it is a label: what it is worth is what the hold of that sum in a sandbox is worth. -/
noncomputable def Try.pinned : Pinned := { name := "ytcleiaibcfocdaa", sum := "afa52561849a608033f4dd169e4712c830114ecb87acad74b4d788990500e6a2", checked := Try.checked }
namespace Rows
def none {H : Type} : Left H := { results := [], args := [] }

/-- 'laws.FnNodeOf': WHATEVER THE INPUT: true; the input reads as it did. -/
def fnNodeOfSpec : ChangeSpec := { name := "fnNodeOf", fn := fun _ => fun
  | [d] => { results := [.lit (.bool true)], args := [d] }
  | _ => none }
def fnNodeOfRow : OpenClaim := { program := "ytcleiaibcfocdaa", sum := "afa52561849a608033f4dd169e4712c830114ecb87acad74b4d788990500e6a2", func := "loop.example/slackwater/laws.FnNodeOf", spec := "fnNodeOf", unfollowed := true, recurses := true, plainKeys := false, apart := false }
def FnNodeOfSaid : Prop := fnNodeOfRow.holds Try.pinned (OpenSpec.ofChange fnNodeOfSpec)

/-- ITS FALSE NEIGHBOUR: 'it returns false'. Refute it at one input. -/
def fnNodeOfWrong : ChangeSpec := { name := "fnNodeOf", fn := fun _ => fun
  | [d] => { results := [.lit (.bool false)], args := [d] }
  | _ => none }
def FnNodeOfWrongFalsely : Prop := fnNodeOfRow.holds Try.pinned (OpenSpec.ofChange fnNodeOfWrong)

/-- 'laws.FnWordStrict': WHATEVER THE INPUT: true; the input reads as it did. -/
def fnWordStrictSpec : ChangeSpec := { name := "fnWordStrict", fn := fun _ => fun
  | [d] => { results := [.lit (.bool true)], args := [d] }
  | _ => none }
def fnWordStrictRow : OpenClaim := { program := "ytcleiaibcfocdaa", sum := "afa52561849a608033f4dd169e4712c830114ecb87acad74b4d788990500e6a2", func := "loop.example/slackwater/laws.FnWordStrict", spec := "fnWordStrict", inPlace := ["internal/reflectlite.TypeOf"], unfollowed := true, recurses := true, plainKeys := false, apart := false }
def FnWordStrictSaid : Prop := fnWordStrictRow.holds Try.pinned (OpenSpec.ofChange fnWordStrictSpec)

/-- ITS FALSE NEIGHBOUR: 'it returns false'. Refute it at one input. -/
def fnWordStrictWrong : ChangeSpec := { name := "fnWordStrict", fn := fun _ => fun
  | [d] => { results := [.lit (.bool false)], args := [d] }
  | _ => none }
def FnWordStrictWrongFalsely : Prop := fnWordStrictRow.holds Try.pinned (OpenSpec.ofChange fnWordStrictWrong)

/-- 'laws.FnExactNodeStart': WHATEVER THE INPUT: true; the input reads as it did. -/
def fnExactNodeStartSpec : ChangeSpec := { name := "fnExactNodeStart", fn := fun _ => fun
  | [d] => { results := [.lit (.bool true)], args := [d] }
  | _ => none }
def fnExactNodeStartRow : OpenClaim := { program := "ytcleiaibcfocdaa", sum := "afa52561849a608033f4dd169e4712c830114ecb87acad74b4d788990500e6a2", func := "loop.example/slackwater/laws.FnExactNodeStart", spec := "fnExactNodeStart", unfollowed := true, recurses := true, plainKeys := false, apart := false }
def FnExactNodeStartSaid : Prop := fnExactNodeStartRow.holds Try.pinned (OpenSpec.ofChange fnExactNodeStartSpec)

/-- ITS FALSE NEIGHBOUR: 'it returns false'. Refute it at one input. -/
def fnExactNodeStartWrong : ChangeSpec := { name := "fnExactNodeStart", fn := fun _ => fun
  | [d] => { results := [.lit (.bool false)], args := [d] }
  | _ => none }
def FnExactNodeStartWrongFalsely : Prop := fnExactNodeStartRow.holds Try.pinned (OpenSpec.ofChange fnExactNodeStartWrong)

/-- 'laws.FnExactWordUnpack': WHATEVER THE INPUT: true; the input reads as it did. -/
def fnExactWordUnpackSpec : ChangeSpec := { name := "fnExactWordUnpack", fn := fun _ => fun
  | [d] => { results := [.lit (.bool true)], args := [d] }
  | _ => none }
def fnExactWordUnpackRow : OpenClaim := { program := "ytcleiaibcfocdaa", sum := "afa52561849a608033f4dd169e4712c830114ecb87acad74b4d788990500e6a2", func := "loop.example/slackwater/laws.FnExactWordUnpack", spec := "fnExactWordUnpack", inPlace := ["internal/reflectlite.TypeOf"], unfollowed := true, recurses := true, plainKeys := false, apart := false }
def FnExactWordUnpackSaid : Prop := fnExactWordUnpackRow.holds Try.pinned (OpenSpec.ofChange fnExactWordUnpackSpec)

/-- ITS FALSE NEIGHBOUR: 'it returns false'. Refute it at one input. -/
def fnExactWordUnpackWrong : ChangeSpec := { name := "fnExactWordUnpack", fn := fun _ => fun
  | [d] => { results := [.lit (.bool false)], args := [d] }
  | _ => none }
def FnExactWordUnpackWrongFalsely : Prop := fnExactWordUnpackRow.holds Try.pinned (OpenSpec.ofChange fnExactWordUnpackWrong)

/- THE SECOND FORM. 'bulk': how many values and letters a reading holds, each counted each time it is reached (what is shared counts as often as it is met; a slice's spare places count too). A statement '..UptoSaid' is the law's where the arguments, and the package variables that the reading takes, are together of bulk at most 1048576: NARROWER than '..Said'. Prove '..Said' where nothing that the law and all that it calls make is longer than what came in: it says more and counts as full. Else prove '..UptoSaid'. A law counts once. -/
mutual
def uptoBulk {H : Type} : DataW H → Nat
  | .lit (.string bytes) => bytes.length + 1
  | .lit _ => 1
  | .nil => 1
  | .ptr d => uptoBulk d + 1
  | .slice elems spare => uptoBulkAll elems + uptoBulkAll spare + 1
  | .agg parts => uptoBulkAll parts + 1
  | .iface _ d => uptoBulk d + 1
  | .map entries => uptoBulkEntries entries + 1
  | .held _ => 1
def uptoBulkAll {H : Type} : List (DataW H) → Nat
  | [] => 0
  | d :: r => uptoBulk d + uptoBulkAll r
def uptoBulkEntries {H : Type} : List (Lit × DataW H) → Nat
  | [] => 0
  | x :: r => uptoBulkEntry x + uptoBulkEntries r
def uptoBulkEntry {H : Type} : Lit × DataW H → Nat
  | (.string bytes, d) => bytes.length + uptoBulk d + 1
  | (_, d) => uptoBulk d + 1
 end
def uptoSmall : (H : Type) → List (DataW H) → Bool := fun _ ds => decide (uptoBulkAll ds ≤ 1048576)
def OpenSpec.upto (s : _root_.Go.ChangeSpec) : _root_.Go.OpenSpec := { _root_.Go.OpenSpec.ofChange s with cond := some uptoSmall }

/-- 'laws.FnNodeOf', WHERE WHAT IT READS IS OF BULK AT MOST 1048576: true; the input reads as it did. -/
def fnNodeOfUptoRow : OpenClaim := { program := "ytcleiaibcfocdaa", sum := "afa52561849a608033f4dd169e4712c830114ecb87acad74b4d788990500e6a2", func := "loop.example/slackwater/laws.FnNodeOf", spec := "fnNodeOf", unfollowed := true, recurses := true, plainKeys := false, apart := false, narrowed := true }
def FnNodeOfUptoSaid : Prop := fnNodeOfUptoRow.holds Try.pinned (OpenSpec.upto fnNodeOfSpec)

/-- 'laws.FnWordStrict', WHERE WHAT IT READS IS OF BULK AT MOST 1048576: true; the input reads as it did. -/
def fnWordStrictUptoRow : OpenClaim := { program := "ytcleiaibcfocdaa", sum := "afa52561849a608033f4dd169e4712c830114ecb87acad74b4d788990500e6a2", func := "loop.example/slackwater/laws.FnWordStrict", spec := "fnWordStrict", inPlace := ["internal/reflectlite.TypeOf"], unfollowed := true, recurses := true, plainKeys := false, apart := false, narrowed := true }
def FnWordStrictUptoSaid : Prop := fnWordStrictUptoRow.holds Try.pinned (OpenSpec.upto fnWordStrictSpec)

/-- 'laws.FnExactNodeStart', WHERE WHAT IT READS IS OF BULK AT MOST 1048576: true; the input reads as it did. -/
def fnExactNodeStartUptoRow : OpenClaim := { program := "ytcleiaibcfocdaa", sum := "afa52561849a608033f4dd169e4712c830114ecb87acad74b4d788990500e6a2", func := "loop.example/slackwater/laws.FnExactNodeStart", spec := "fnExactNodeStart", unfollowed := true, recurses := true, plainKeys := false, apart := false, narrowed := true }
def FnExactNodeStartUptoSaid : Prop := fnExactNodeStartUptoRow.holds Try.pinned (OpenSpec.upto fnExactNodeStartSpec)

/-- 'laws.FnExactWordUnpack', WHERE WHAT IT READS IS OF BULK AT MOST 1048576: true; the input reads as it did. -/
def fnExactWordUnpackUptoRow : OpenClaim := { program := "ytcleiaibcfocdaa", sum := "afa52561849a608033f4dd169e4712c830114ecb87acad74b4d788990500e6a2", func := "loop.example/slackwater/laws.FnExactWordUnpack", spec := "fnExactWordUnpack", inPlace := ["internal/reflectlite.TypeOf"], unfollowed := true, recurses := true, plainKeys := false, apart := false, narrowed := true }
def FnExactWordUnpackUptoSaid : Prop := fnExactWordUnpackUptoRow.holds Try.pinned (OpenSpec.upto fnExactWordUnpackSpec)

end Rows
end Go.Proofs.Ytcleiaibcfocdaa
