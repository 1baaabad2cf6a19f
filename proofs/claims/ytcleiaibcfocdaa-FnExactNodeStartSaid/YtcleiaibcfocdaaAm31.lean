/- The abstract machine, part 31: a region in any order, order by order. -/
import Derived.Test.YtcleiaibcfocdaaAm30
set_option linter.unusedVariables false
set_option linter.unusedSimpArgs false
namespace Go.Proofs.Ytcleiaibcfocdaa.Am
open Go Go.RowKit
variable {P : Program} {n : Nat} {fr : Fr} {h : Hp} {Q : Exit → Fr → Hp → Prop}

def postA (n : Nat) (Q : Exit → Fr → Hp → Prop) (B : Base) (X0 : Cx) (w0 : World) : Exit → Act → World → Prop := fun e a' w' => ∃ fr' h' X', Q e fr' h' ∧ X0.le X' ∧ SRh X' B (hf h') w' ∧ FrOK X' w' n (Fr.get fr') a' ∧ a'.defers = [] ∧ ∀ b, X0.ok2 b → w'.heap[b]? = w0.heap[b]?
/-- What is left of a region, some operations of which have been done. -/
def AnyS (P : Program) (n : Nat) (ops : Array Oper) (Q : Exit → Fr → Hp → Prop) (B : Base) (X0 : Cx) (w0 : World) (fuel : Nat) (listed : Array Bool) (fr : Fr) (h : Hp) : Prop :=
  ∀ (X : Cx) (a : Act) (w : World), X0.le X → (∀ b, X0.ok2 b → w.heap[b]? = w0.heap[b]?) → SRh X B (hf h) w → FrOK X w n fr.get a → a.defers = [] → wpAny P .any ops (postA n Q B X0 w0) fuel listed a w

theorem ex_region_tree (hm : P.follows .mixedOrders = true) {id : Nat} {ops : Array Oper} {m : Nat} (hs : ops.size = m) (hr : ∀ B X0 w0, AnyS P n ops Q B X0 w0 m (Array.replicate m false) fr h) : Ex P n (.region id ops true) fr h Q := fun X B a w hS hF hd => by
  subst hs
  refine wp_region_any hm ?_
  exact hr B X w X a _ (Cx.le.refl X) (fun _ _ => rfl) (hS.drew rfl rfl rfl rfl) (hF.mono (Cx.le.refl X) hS.ok12 (fun _ _ => rfl)) hd

section
variable {tt : TT} {ops : Array Oper} {B : Base} {X0 : Cx} {w0 : World} {fuel : Nat} {listed : Array Bool}
/-- Those that may come next. -/
inductive AnyL (P : Program) (n : Nat) (ops : Array Oper) (Q : Exit → Fr → Hp → Prop) (B : Base) (X0 : Cx) (w0 : World) (fuel : Nat) (listed : Array Bool) (tt : TT) (fr : Fr) (h : Hp) : List Nat → Prop
  | nil : AnyL P n ops Q B X0 w0 fuel listed tt fr h []
  | cons {i : Nat} {o : Oper} {r : List Nat} (ho : ops[i]? = some o) (hg : o.guard = none) (hd : (match o.dst with | some d => decide (d < n) | none => true) = true)
      (k : RunL P tt ops [o] fr h [] fun fr' h' _ => AnyS P n ops Q B X0 w0 fuel (listed.setIfInBounds i true) fr' h') (t : AnyL P n ops Q B X0 w0 fuel listed tt fr h r) : AnyL P n ops Q B X0 w0 fuel listed tt fr h (i :: r)
theorem anyS_step (htt : TTOk P tt) {l : List Nat} (hr : Region.ready .any ops listed = l) (hne : l ≠ []) (k : AnyL P n ops Q B X0 w0 fuel listed tt fr h l) : AnyS P n ops Q B X0 w0 (fuel + 1) listed fr h := by
  intro X a w hX hw hS hF hdf
  refine ⟨fun he => absurd (hr.symm.trans he) hne, ?_⟩
  rw [hr]
  clear hr hne
  induction k with
  | nil => intro i hi; cases hi
  | @cons i o r ho hg hd k t ih =>
    intro j hj
    rcases List.mem_cons.1 hj with rfl | hj
    · unfold RunL at k
      rw [hg] at k
      obtain ⟨out, T, W, h1, h2, h3, h4⟩ := StepX_sound htt k
      have h4' : AnyS P n ops Q B X0 w0 fuel (listed.setIfInBounds j true) (putO fr o.dst out) (updL h W) := h4
      refine opt_plain ho hg h1 X B (hf h) a w (postA n Q B X0 w0) _ hS (fun s av hm => ?_) (fun id ge hm => h2 _ hm) (fun X' w' v hX' hS' hok hv => ?_)
      · obtain ⟨v, q1, q2⟩ := hF.slot s av (insOf_mem.1 hm).2
        rw [Array.getD_eq_getD_getElem?, q1]
        exact q2
      · rw [← updL_hf] at hS'
        have hdo : dstOf ops j = o.dst := by simp [dstOf, ho]
        refine h4' X' _ w' (hX.trans hX') (fun b hb => (hok b (hX.ok2 b hb)).trans (hw b hb)) hS' ?_ ?_
        · rw [putO_get, hdo]
          refine (hF.mono hX' hS.ok12 hok).put _ hv (fun d hd' => ?_)
          rw [hd'] at hd
          simpa using hd
        · rw [hdo]; cases o.dst <;> exact hdf
    · exact ih j hj
theorem anyS_done (hr : Region.ready .any ops listed = []) (k : Q .normal fr h) : AnyS P n ops Q B X0 w0 0 listed fr h := fun X a w hX hw hS hF hdf =>
  ⟨hr, fr, h, X, k, hX, hS, hF, hdf, hw⟩
/-- Less is known of the frame and of the heap of ids. -/
theorem anyS_cov {fr' : Fr} (hc : Cov fr' fr) (k : AnyS P n ops Q B X0 w0 fuel listed fr' h) : AnyS P n ops Q B X0 w0 fuel listed fr h := fun X a w hX hw hS hF hdf =>
  k X a w hX hw hS ⟨hF.size, fun t av ht => hF.slot t av (hc t av ht)⟩ hdf
theorem anyS_hp {h' : Hp} (he : hf h = hf h') (k : AnyS P n ops Q B X0 w0 fuel listed fr h') : AnyS P n ops Q B X0 w0 fuel listed fr h := fun X a w hX hw hS hF hdf => k X a w hX hw (he ▸ hS) hF hdf
end
end Go.Proofs.Ytcleiaibcfocdaa.Am
