/- The law FnExactNodeView walked: the program's NodeView and the specification's answer alike, the arguments stay as they were, and what was answered is held. No condition on the input. -/
import Derived.Test.YtpadkogpeobboaaGreatRows
import Derived.Test.YtpadkogpeobboaaGreatKk6
import Derived.WalkKit
import Derived.ProofKit
import Derived.OpenShut
import Derived.ShutString
import Derived.ChangeOld
import Derived.Below
import Derived.SizedLaws
namespace Go.Proofs.YtpadkogpeobboaaGreat.fnExactNodeView
open Go Go.ChangeShapes Go.WideShapes Go.ChangeAt Go.RowKit Am
open Go.ChangeMaps (open_string shut_string)
set_option linter.unusedVariables false
theorem own : ownKnob Tryz.prog.godebug = none := by kernel_rfl
theorem laidOut : laidOutB Tryz.prog = true := by kernel_rfl
theorem walk (v0 : Value) (a1 : Int) (a2 : Int) (a3 : Int) (a4 : Int) (v5 : Value) (w : World) (w0 : ∃ x : Nd, VR (X0 w) w (.agg (a1i true x)) v0) (w1 : (Lit.int .i64 a1).wf = true) (w2 : (Lit.int .i64 a2).wf = true) (w3 : (Lit.int .i64 a3).wf = true) (w4 : (Lit.int .i64 a4).wf = true) (w5 : ∃ x : List Ev, VR (X0 w) w (r7r true x) v5) : Calls Tryz.prog 10 #[v0, .int .i64 a1, .int .i64 a2, .int .i64 a3, .int .i64 a4, v5] w fun e w' => e = .returned (.bool true) ∧ Below w.heap.size w w' := by
  obtain ⟨x0, hv0⟩ := w0
  have hv1 : VR (X0 w) w (.pv (.int .i64 a1)) (.int .i64 a1) := .pv _
  simp only [Lit.wf, Bool.and_eq_true, decide_eq_true_eq, IntKind.min, IntKind.max, IntKind.signed, IntKind.bits] at w1
  have u1 : -9223372036854775808 ≤ a1 ∧ a1 < 9223372036854775808 := by simp at w1; omega
  have hv2 : VR (X0 w) w (.pv (.int .i64 a2)) (.int .i64 a2) := .pv _
  simp only [Lit.wf, Bool.and_eq_true, decide_eq_true_eq, IntKind.min, IntKind.max, IntKind.signed, IntKind.bits] at w2
  have u2 : -9223372036854775808 ≤ a2 ∧ a2 < 9223372036854775808 := by simp at w2; omega
  have hv3 : VR (X0 w) w (.pv (.int .i64 a3)) (.int .i64 a3) := .pv _
  simp only [Lit.wf, Bool.and_eq_true, decide_eq_true_eq, IntKind.min, IntKind.max, IntKind.signed, IntKind.bits] at w3
  have u3 : -9223372036854775808 ≤ a3 ∧ a3 < 9223372036854775808 := by simp at w3; omega
  have hv4 : VR (X0 w) w (.pv (.int .i64 a4)) (.int .i64 a4) := .pv _
  simp only [Lit.wf, Bool.and_eq_true, decide_eq_true_eq, IntKind.min, IntKind.max, IntKind.signed, IntKind.bits] at w4
  have u4 : -9223372036854775808 ≤ a4 ∧ a4 < 9223372036854775808 := by simp at w4; omega
  obtain ⟨x5, hv5⟩ := w5
  refine c5u (a9p x0 a1 a2 a3 a4 x5) w [v0, .int .i64 a1, .int .i64 a2, .int .i64 a3, .int .i64 a4, v5] rfl fun i a v ha hv => ?_
  cases i with
  | zero => simp only [List.getElem?_cons_zero, Option.some.injEq] at ha hv; subst ha hv; exact hv0
  | succ i =>
    simp only [List.getElem?_cons_succ] at ha hv
    cases i with
    | zero => simp only [List.getElem?_cons_zero, Option.some.injEq] at ha hv; subst ha hv; exact hv1
    | succ i =>
      simp only [List.getElem?_cons_succ] at ha hv
      cases i with
      | zero => simp only [List.getElem?_cons_zero, Option.some.injEq] at ha hv; subst ha hv; exact hv2
      | succ i =>
        simp only [List.getElem?_cons_succ] at ha hv
        cases i with
        | zero => simp only [List.getElem?_cons_zero, Option.some.injEq] at ha hv; subst ha hv; exact hv3
        | succ i =>
          simp only [List.getElem?_cons_succ] at ha hv
          cases i with
          | zero => simp only [List.getElem?_cons_zero, Option.some.injEq] at ha hv; subst ha hv; exact hv4
          | succ i =>
            simp only [List.getElem?_cons_succ] at ha hv
            cases i with
            | zero => simp only [List.getElem?_cons_zero, Option.some.injEq] at ha hv; subst ha hv; exact hv5
            | succ i =>
              simp only [List.getElem?_cons_succ] at ha hv
              simp at ha
set_option maxRecDepth 100000 in
theorem lifted (os : Os) (started : os.Started) (H : Type) (enc : TypeId × Value → H) :
    ReturnsInHanded {} Tryz.checked os 10 .any (Rows.fnExactNodeViewSpec.pre6 enc Tryz.prog Tryz.f10 Rows.fnExactNodeViewRow.domain false) (Rows.fnExactNodeViewSpec.post enc Tryz.prog Tryz.f10 false true false false) := by
  refine returnsInHanded_of_change_sized (C := Tryz.checked) own started (by kernel_rfl) Tryz.func10
    (ChangeSpec.witness6 (enc := enc) (C := Tryz.checked) false ⟨#[], #[.agg #[.int .i64 0, .bool false, .int .i64 0, .int .i64 0, .slice none 0 0, .slice none 0 0, .slice none 0 0, .int .i64 0, .int .i64 0, .slice none 0 0, .slice none 0 0, .int .i64 0, .int .i64 0], .int .i64 0, .int .i64 0, .int .i64 0, .int .i64 0, .slice none 0 0], []⟩ 8 (by kernel_rfl) (by kernel_rfl) (by kernel_rfl) (by kernel_rfl)) ?_
  intro W base args ds gs before hval0 hW hcnd hsz0 _
  have hval : ∀ (j : Nat) t v, Tryz.f10.params[j]? = some t → args[j]? = some v → Value.okWide Tryz.prog W .any base t v := hval0
  have hW' := hW
  obtain ⟨p, q, hA0, hV, rfl, hfz, hnd⟩ := hW
  have hA : DataW.TrodAll enc Tryz.prog W 0 (fun _ => true) true Tryz.f10.params.toList args.toList ds p := hA0
  rw [Tryz.params10] at hA hval
  obtain ⟨v0, vs0, d0, ds0, p0, q0, hargs, rfl, rfl, h0, r0⟩ := trodAll_cons hA
  obtain ⟨v1, vs1, d1, ds1, p1, q1, rfl, rfl, rfl, h1, r1⟩ := trodAll_cons r0
  obtain ⟨v2, vs2, d2, ds2, p2, q2, rfl, rfl, rfl, h2, r2⟩ := trodAll_cons r1
  obtain ⟨v3, vs3, d3, ds3, p3, q3, rfl, rfl, rfl, h3, r3⟩ := trodAll_cons r2
  obtain ⟨v4, vs4, d4, ds4, p4, q4, rfl, rfl, rfl, h4, r4⟩ := trodAll_cons r3
  obtain ⟨v5, vs5, d5, ds5, p5, q5, rfl, rfl, rfl, h5, r5⟩ := trodAll_cons r4
  obtain ⟨rfl, rfl, rfl⟩ := trodAll_nil r5
  obtain rfl : args = #[v0, v1, v2, v3, v4, v5] := by cases args; simp_all
  obtain ⟨rfl, rfl⟩ := trodVars_none hV
  obtain ⟨cs0, rfl, _⟩ := okWide_struct Tryz.underlying42 (hval 0 42 v0 rfl rfl)
  have k0 := h0
  have lt0 : ∀ x ∈ p0, x.block < W.heap.size := by obtain ⟨m, hm⟩ := k0; exact DataW.trod_lt m _ _ _ hm
  have w0 := d9f (d7k enc W) h0
  obtain ⟨a1, rfl, rfl, rfl, w1⟩ := open_int Tryz.underlying3 (hval 1 3 v1 rfl rfl) h1
  obtain ⟨a2, rfl, rfl, rfl, w2⟩ := open_int Tryz.underlying3 (hval 2 3 v2 rfl rfl) h2
  obtain ⟨a3, rfl, rfl, rfl, w3⟩ := open_int Tryz.underlying3 (hval 3 3 v3 rfl rfl) h3
  obtain ⟨a4, rfl, rfl, rfl, w4⟩ := open_int Tryz.underlying3 (hval 4 3 v4 rfl rfl) h4
  obtain ⟨a5, len5, cap5, rfl⟩ := okWide_slice Tryz.underlying38 (hval 5 38 v5 rfl rfl)
  have k5 := h5
  have lt5 : ∀ x ∈ p5, x.block < W.heap.size := by obtain ⟨m, hm⟩ := k5; exact DataW.trod_lt m _ _ _ hm
  have w5 := d9g (d2c enc W) rfl h5
  clear hA0 hval0 hsz0
  refine (walk (.agg cs0) a1 a2 a3 a4 (.slice a5 len5 cap5) W w0 w1 w2 w3 w4 w5).mono fun e W' ⟨he, bel⟩ => ?_
  subst he
  exact ⟨_, rfl, _, _, _, [], _, [], hW', trodAll_mk1 (shut_bool Tryz.underlying4 _), (trodAll_cons_mk (Below.trod laidOut (by kernel_rfl) (of_decide_eq_true (by kernel_rfl)) k0 bel lt0) (trodAll_cons_mk (shut_int Tryz.underlying3 w1) (trodAll_cons_mk (shut_int Tryz.underlying3 w2) (trodAll_cons_mk (shut_int Tryz.underlying3 w3) (trodAll_cons_mk (shut_int Tryz.underlying3 w4) (trodAll_cons_mk (Below.trod laidOut (by kernel_rfl) (of_decide_eq_true (by kernel_rfl)) k5 bel lt5) trodAll_mk0)))))), rfl, bel.frame _, fun h => by cases h⟩
theorem j1 : (Rows.fnExactNodeViewRow.wf (OpenSpec.ofChange Rows.fnExactNodeViewSpec)) = true := by kernel_rfl
theorem j2 : (laidOutB Tryz.pinned.checked.prog) = true := by kernel_rfl
theorem j3 : (mapsRowed Tryz.pinned.checked.prog) = true := by kernel_rfl
theorem j4 : (Tryz.f10.params.all (Tryz.pinned.checked.prog.readableRec ·)) = true := by kernel_rfl
theorem j5 : (namedTie Tryz.pinned.checked.prog Rows.fnExactNodeViewRow.named Rows.fnExactNodeViewSpec.vars) = true := by kernel_rfl
theorem j6 : ((Rows.fnExactNodeViewRow.stops == [])) = true := by kernel_rfl
theorem j7 : ((Tryz.pinned.checked.prog.stops == [])) = true := by kernel_rfl
theorem j8 : ((Rows.fnExactNodeViewRow.knobs == [])) = true := by kernel_rfl
theorem j9 : ((Tryz.pinned.checked.prog.stopKnobs == [])) = true := by kernel_rfl
theorem j10 : ((Rows.fnExactNodeViewRow.inPlace == Tryz.pinned.checked.prog.inPlace 10)) = true := by kernel_rfl
theorem j11 : ((Rows.fnExactNodeViewRow.unfollowed == Tryz.pinned.checked.prog.unfollowed 10)) = true := by kernel_rfl
theorem j12 : ((Rows.fnExactNodeViewRow.recurses == Tryz.pinned.checked.prog.recurses 10)) = true := by kernel_rfl
theorem j13 : ((Rows.fnExactNodeViewRow.named == Tryz.pinned.checked.prog.varsNamed 10)) = true := by kernel_rfl
theorem j14 : ((Rows.fnExactNodeViewRow.maps == (Tryz.f10.params.toList ++ Rows.fnExactNodeViewSpec.plain.varTypes Tryz.pinned.checked.prog).any (Tryz.pinned.checked.prog.mapsRec ·))) = true := by kernel_rfl
theorem j15 : ((Rows.fnExactNodeViewRow.ifaces == (Tryz.f10.params.toList ++ Rows.fnExactNodeViewSpec.plain.varTypes Tryz.pinned.checked.prog).any (Tryz.pinned.checked.prog.ifacesRec ·))) = true := by kernel_rfl
theorem j16 : ((Rows.fnExactNodeViewRow.mapsOut == Tryz.pinned.checked.prog.mapsAmong Tryz.f10.resultTypes.toList)) = true := by kernel_rfl
theorem j17 : ((Rows.fnExactNodeViewRow.loops == (Tryz.f10.params.toList ++ Rows.fnExactNodeViewSpec.plain.varTypes Tryz.pinned.checked.prog).any (Tryz.pinned.checked.prog.loopsFrom ·))) = true := by kernel_rfl
theorem j18 : ((Rows.fnExactNodeViewRow.wideKeys == (Tryz.f10.params.toList ++ Rows.fnExactNodeViewSpec.plain.varTypes Tryz.pinned.checked.prog ++ Tryz.f10.resultTypes.toList).any (Tryz.pinned.checked.prog.wideKeysFrom ·))) = true := by kernel_rfl
theorem j19 : (Rows.fnExactNodeViewSpec.vars.all (Tryz.pinned.checked.prog.varReadable ·)) = true := by kernel_rfl
theorem j20 : (Tryz.f10.resultTypes.all (fun t => Tryz.pinned.checked.prog.readableRec t && decide (t < Tryz.pinned.checked.prog.types.size))) = true := by kernel_rfl
theorem j21 : ((Rows.fnExactNodeViewRow.ifacesOut == Tryz.f10.resultTypes.toList.any (Tryz.pinned.checked.prog.ifacesRec ·))) = true := by kernel_rfl
theorem j22 : ((Rows.fnExactNodeViewRow.loopsOut == Tryz.f10.resultTypes.toList.any (Tryz.pinned.checked.prog.loopsFrom ·))) = true := by kernel_rfl
theorem j23 : ((Rows.fnExactNodeViewRow.plainKeys == Tryz.pinned.checked.prog.plainKeys)) = true := by kernel_rfl
theorem j24 : (Rows.fnExactNodeViewRow.shortTexts.isNone) = true := by kernel_rfl
theorem j25 : (Tryz.pinned.checked.prog.stopsHeard) = true := by kernel_rfl
theorem j26 : (Tryz.pinned.checked.prog.mayEnter) = true := by kernel_rfl
theorem j27 : ((Rows.fnExactNodeViewRow.lifted == Tryz.pinned.checked.prog.liftsFinal)) = true := by kernel_rfl
theorem j28 : ((Tryz.pinned.checked.prog.make == some Rows.fnExactNodeViewRow.make)) = true := by kernel_rfl
theorem j30 : ((Rows.fnExactNodeViewRow.pinned == Rows.fnExactNodeViewRow.pinnedBy)) = true := by kernel_rfl
theorem j31 : ((Rows.fnExactNodeViewRow.veiled == (Tryz.f10.params.toList ++ Rows.fnExactNodeViewSpec.plain.varTypes Tryz.pinned.checked.prog ++ Tryz.f10.resultTypes.toList).any (Tryz.pinned.checked.prog.veiledRec ·))) = true := by kernel_rfl
theorem j32 : (Rows.fnExactNodeViewRow.veiledFits Tryz.pinned.checked.prog Tryz.f10.params.toList (Tryz.f10.params.toList ++ Rows.fnExactNodeViewSpec.plain.varTypes Tryz.pinned.checked.prog ++ Tryz.f10.resultTypes.toList)) = true := by kernel_rfl
theorem band {a b : Bool} (h : a = true) (k : b = true) : (a && b) = true := by rw [h, k]; rfl
theorem closed : joinedFacts Tryz.pinned.checked.prog 10 Tryz.f10 Rows.fnExactNodeViewSpec Rows.fnExactNodeViewRow = true := by
  unfold joinedFacts
  exact (band (band (band (band (band (band (band (band (band (band (band (band (band (band (band (band (band (band (band (band (band (band (band (band (band (band (band (band (band (band (band j1 j2) j3) j4) j5) j6) j7) j8) j9) j10) j11) j12) j13) j14) j15) j16) j17) j18) j19) j20) j21) j22) j23) j24) j25) j26) j27) j28) (by kernel_rfl)) j30) j31) j32)
theorem over : Rows.fnExactNodeViewRow.holds Tryz.pinned (OpenSpec.ofChange Rows.fnExactNodeViewSpec) :=
  OpenClaim.holds_of_wide 10 Tryz.f10 rfl rfl rfl rfl rfl rfl rfl ⟨rfl, rfl, rfl, rfl, rfl⟩ rfl rfl rfl rfl rfl (by kernel_rfl) Tryz.func10 closed
    (of_decide_eq_true (by kernel_rfl)) (by unfold Func.isWrapper; first | (rw [if_pos (by decide +kernel)]; kernel_rfl) | (rw [if_neg (by decide +kernel)]; exact ⟨rfl, rfl⟩))
    (fun os started H enc _ => lifted os started H enc)
theorem proved : Rows.FnExactNodeViewSaid := over
#print axioms proved
end Go.Proofs.YtpadkogpeobboaaGreat.fnExactNodeView
namespace Go.Proofs.YtpadkogpeobboaaGreat
theorem fnExactNodeView_holds : Rows.FnExactNodeViewSaid := fnExactNodeView.proved
end Go.Proofs.YtpadkogpeobboaaGreat

