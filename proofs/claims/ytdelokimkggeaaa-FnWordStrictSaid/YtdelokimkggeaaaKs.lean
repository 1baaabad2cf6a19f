/- Every word has just one row of bytes: what is read as a word is written as it was. There is no condition on the input. -/
import Derived.Test.YtdelokimkggeaaaRows
import Derived.Test.YtdelokimkggeaaaKs4
import Derived.WalkKit
import Derived.ProofKit
import Derived.OpenShut
import Derived.ShutString
import Derived.ChangeOld
import Derived.Below
import Derived.SizedLaws
namespace Go.Proofs.Ytdelokimkggeaaa.fnWordStrict
open Go Go.ChangeShapes Go.WideShapes Go.ChangeAt Go.RowKit Am
open Go.ChangeMaps (open_string shut_string)
set_option linter.unusedVariables false
theorem own : ownKnob Try.prog.godebug = none := by kernel_rfl
theorem laidOut : laidOutB Try.prog = true := by kernel_rfl
theorem walk (a0 : Option Addr) (len0 cap0 : Nat) (z0 : List Int) (w : World) (w0 : c6i .u8 w a0 len0 cap0 z0) : Calls Try.prog 3 #[.slice a0 len0 cap0] w fun e w' => e = .returned (.bool true) ∧ Below w.heap.size w w' := by
  obtain ⟨bs, hbs, hv0⟩ := c1w w0
  refine b6w (a6l bs hbs) w [.slice a0 len0 cap0] rfl fun i a v ha hv => ?_
  cases i with
  | zero => simp only [List.getElem?_cons_zero, Option.some.injEq] at ha hv; subst ha hv; exact hv0
  | succ i =>
    simp only [List.getElem?_cons_succ] at ha hv
    simp at ha
set_option maxRecDepth 100000 in
theorem lifted (os : Os) (started : os.Started) (H : Type) (enc : TypeId × Value → H) :
    ReturnsInHanded {} Try.checked os 3 .any (Rows.fnWordStrictSpec.pre6 enc Try.prog Try.f3 Rows.fnWordStrictRow.domain false) (Rows.fnWordStrictSpec.post enc Try.prog Try.f3 false true false false) := by
  refine returnsInHanded_of_change_sized (C := Try.checked) own started (by kernel_rfl) Try.func3
    (ChangeSpec.witness6 (enc := enc) (C := Try.checked) false ⟨#[], #[.slice none 0 0], []⟩ 8 (by kernel_rfl) (by kernel_rfl) (by kernel_rfl) (by kernel_rfl)) ?_
  intro W base args ds gs before hval0 hW hcnd hsz0 _
  have hval : ∀ (j : Nat) t v, Try.f3.params[j]? = some t → args[j]? = some v → Value.okWide Try.prog W .any base t v := hval0
  have hW' := hW
  obtain ⟨p, q, hA0, hV, rfl, hfz, hnd⟩ := hW
  have hA : DataW.TrodAll enc Try.prog W 0 (fun _ => true) true Try.f3.params.toList args.toList ds p := hA0
  rw [Try.params3] at hA hval
  obtain ⟨v0, vs0, d0, ds0, p0, q0, hargs, rfl, rfl, h0, r0⟩ := trodAll_cons hA
  obtain ⟨rfl, rfl, rfl⟩ := trodAll_nil r0
  obtain rfl : args = #[v0] := by cases args; simp_all
  obtain ⟨rfl, rfl⟩ := trodVars_none hV
  obtain ⟨a0, len0, cap0, rfl⟩ := okWide_slice Try.underlying22 (hval 0 22 v0 rfl rfl)
  have k0 := h0
  have lt0 : ∀ x ∈ p0, x.block < W.heap.size := by obtain ⟨m, hm⟩ := k0; exact DataW.trod_lt m _ _ _ hm
  obtain ⟨z0, w0⟩ : ∃ zs, c6i .u8 W a0 len0 cap0 zs := by
    obtain ⟨fuel, hf⟩ := h0
    rcases open_ints Try.underlying22 Try.underlying5 (by kernel_rfl) hf with ⟨hcs, _⟩ | ⟨x, l, c, zs, hcs, _, hl, hm, hz, _, hcell, hwz⟩
    · simp [Value.cells] at hcs
      obtain ⟨rfl, rfl, rfl⟩ := hcs
      exact ⟨[], .inl ⟨rfl, rfl, rfl, rfl⟩⟩
    · simp [Value.cells] at hcs
      obtain ⟨rfl, rfl, rfl⟩ := hcs
      exact ⟨zs, .inr ⟨_, rfl, hl, hm, by simpa using hz, hcell, hwz⟩⟩
  clear hA0 hval0 hsz0
  refine (walk a0 len0 cap0 z0 W w0).mono fun e W' ⟨he, bel⟩ => ?_
  subst he
  exact ⟨_, rfl, _, _, _, [], _, [], hW', trodAll_mk1 (shut_bool Try.underlying4 _), (trodAll_cons_mk (Below.trod laidOut (by kernel_rfl) (of_decide_eq_true (by kernel_rfl)) k0 bel lt0) trodAll_mk0), rfl, bel.frame _, fun h => by cases h⟩
theorem j1 : (Rows.fnWordStrictRow.wf (OpenSpec.ofChange Rows.fnWordStrictSpec)) = true := by kernel_rfl
theorem j2 : (laidOutB Try.pinned.checked.prog) = true := by kernel_rfl
theorem j3 : (mapsRowed Try.pinned.checked.prog) = true := by kernel_rfl
theorem j4 : (Try.f3.params.all (Try.pinned.checked.prog.readableRec ·)) = true := by kernel_rfl
theorem j5 : (namedTie Try.pinned.checked.prog Rows.fnWordStrictRow.named Rows.fnWordStrictSpec.vars) = true := by kernel_rfl
theorem j6 : ((Rows.fnWordStrictRow.stops == [])) = true := by kernel_rfl
theorem j7 : ((Try.pinned.checked.prog.stops == [])) = true := by kernel_rfl
theorem j8 : ((Rows.fnWordStrictRow.knobs == [])) = true := by kernel_rfl
theorem j9 : ((Try.pinned.checked.prog.stopKnobs == [])) = true := by kernel_rfl
theorem j10 : ((Rows.fnWordStrictRow.inPlace == Try.pinned.checked.prog.inPlace 3)) = true := by kernel_rfl
theorem j11 : ((Rows.fnWordStrictRow.unfollowed == Try.pinned.checked.prog.unfollowed 3)) = true := by kernel_rfl
theorem j12 : ((Rows.fnWordStrictRow.recurses == Try.pinned.checked.prog.recurses 3)) = true := by kernel_rfl
theorem j13 : ((Rows.fnWordStrictRow.named == Try.pinned.checked.prog.varsNamed 3)) = true := by kernel_rfl
theorem j14 : ((Rows.fnWordStrictRow.maps == (Try.f3.params.toList ++ Rows.fnWordStrictSpec.plain.varTypes Try.pinned.checked.prog).any (Try.pinned.checked.prog.mapsRec ·))) = true := by kernel_rfl
theorem j15 : ((Rows.fnWordStrictRow.ifaces == (Try.f3.params.toList ++ Rows.fnWordStrictSpec.plain.varTypes Try.pinned.checked.prog).any (Try.pinned.checked.prog.ifacesRec ·))) = true := by kernel_rfl
theorem j16 : ((Rows.fnWordStrictRow.mapsOut == Try.pinned.checked.prog.mapsAmong Try.f3.resultTypes.toList)) = true := by kernel_rfl
theorem j17 : ((Rows.fnWordStrictRow.loops == (Try.f3.params.toList ++ Rows.fnWordStrictSpec.plain.varTypes Try.pinned.checked.prog).any (Try.pinned.checked.prog.loopsFrom ·))) = true := by kernel_rfl
theorem j18 : ((Rows.fnWordStrictRow.wideKeys == (Try.f3.params.toList ++ Rows.fnWordStrictSpec.plain.varTypes Try.pinned.checked.prog ++ Try.f3.resultTypes.toList).any (Try.pinned.checked.prog.wideKeysFrom ·))) = true := by kernel_rfl
theorem j19 : (Rows.fnWordStrictSpec.vars.all (Try.pinned.checked.prog.varReadable ·)) = true := by kernel_rfl
theorem j20 : (Try.f3.resultTypes.all (fun t => Try.pinned.checked.prog.readableRec t && decide (t < Try.pinned.checked.prog.types.size))) = true := by kernel_rfl
theorem j21 : ((Rows.fnWordStrictRow.ifacesOut == Try.f3.resultTypes.toList.any (Try.pinned.checked.prog.ifacesRec ·))) = true := by kernel_rfl
theorem j22 : ((Rows.fnWordStrictRow.loopsOut == Try.f3.resultTypes.toList.any (Try.pinned.checked.prog.loopsFrom ·))) = true := by kernel_rfl
theorem j23 : ((Rows.fnWordStrictRow.plainKeys == Try.pinned.checked.prog.plainKeys)) = true := by kernel_rfl
theorem j24 : (Rows.fnWordStrictRow.shortTexts.isNone) = true := by kernel_rfl
theorem j25 : (Try.pinned.checked.prog.stopsHeard) = true := by kernel_rfl
theorem j26 : (Try.pinned.checked.prog.mayEnter) = true := by kernel_rfl
theorem j27 : ((Rows.fnWordStrictRow.lifted == Try.pinned.checked.prog.liftsFinal)) = true := by kernel_rfl
theorem j28 : ((Try.pinned.checked.prog.make == some Rows.fnWordStrictRow.make)) = true := by kernel_rfl
theorem j30 : ((Rows.fnWordStrictRow.pinned == Rows.fnWordStrictRow.pinnedBy)) = true := by kernel_rfl
theorem j31 : ((Rows.fnWordStrictRow.veiled == (Try.f3.params.toList ++ Rows.fnWordStrictSpec.plain.varTypes Try.pinned.checked.prog ++ Try.f3.resultTypes.toList).any (Try.pinned.checked.prog.veiledRec ·))) = true := by kernel_rfl
theorem j32 : (Rows.fnWordStrictRow.veiledFits Try.pinned.checked.prog Try.f3.params.toList (Try.f3.params.toList ++ Rows.fnWordStrictSpec.plain.varTypes Try.pinned.checked.prog ++ Try.f3.resultTypes.toList)) = true := by kernel_rfl
theorem band {a b : Bool} (h : a = true) (k : b = true) : (a && b) = true := by rw [h, k]; rfl
theorem closed : joinedFacts Try.pinned.checked.prog 3 Try.f3 Rows.fnWordStrictSpec Rows.fnWordStrictRow = true := by
  unfold joinedFacts
  exact (band (band (band (band (band (band (band (band (band (band (band (band (band (band (band (band (band (band (band (band (band (band (band (band (band (band (band (band (band (band (band j1 j2) j3) j4) j5) j6) j7) j8) j9) j10) j11) j12) j13) j14) j15) j16) j17) j18) j19) j20) j21) j22) j23) j24) j25) j26) j27) j28) (by kernel_rfl)) j30) j31) j32)
theorem over : Rows.fnWordStrictRow.holds Try.pinned (OpenSpec.ofChange Rows.fnWordStrictSpec) :=
  OpenClaim.holds_of_wide 3 Try.f3 rfl rfl rfl rfl rfl rfl rfl ⟨rfl, rfl, rfl, rfl, rfl⟩ rfl rfl rfl rfl rfl (by kernel_rfl) Try.func3 closed
    (of_decide_eq_true (by kernel_rfl)) (by unfold Func.isWrapper; first | (rw [if_pos (by decide +kernel)]; kernel_rfl) | (rw [if_neg (by decide +kernel)]; exact ⟨rfl, rfl⟩))
    (fun os started H enc _ => lifted os started H enc)
theorem proved : Rows.FnWordStrictSaid := over
#print axioms proved
end Go.Proofs.Ytdelokimkggeaaa.fnWordStrict
namespace Go.Proofs.Ytdelokimkggeaaa
theorem fnWordStrict_holds : Rows.FnWordStrictSaid := fnWordStrict.proved
end Go.Proofs.Ytdelokimkggeaaa

