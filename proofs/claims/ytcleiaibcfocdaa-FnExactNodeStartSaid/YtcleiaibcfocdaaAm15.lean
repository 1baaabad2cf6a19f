/- The abstract machine, part 15: code. -/
import Derived.Test.YtcleiaibcfocdaaAm14
import Derived.LoopN
set_option linter.unusedVariables false
set_option linter.unusedSimpArgs false
namespace Go.Proofs.Ytcleiaibcfocdaa.Am
open Go Go.RowKit

variable {P : Program}

/-- Out of any world that fits the frame and the heap of ids, the code ends as Q says. -/
def Ex (P : Program) (n : Nat) (c : Code) (fr : Fr) (h : Hp) (Q : Exit → Fr → Hp → Prop) : Prop :=
  ∀ (X : Cx) (B : Base) (a : Act) (w : World), SRh X B (hf h) w → FrOK X w n fr.get a → a.defers = [] →
    c.wp P (fun e a' w' => ∃ fr' h' X', Q e fr' h' ∧ X.le X' ∧ SRh X' B (hf h') w' ∧ FrOK X' w' n (Fr.get fr') a' ∧ a'.defers = [] ∧ ∀ b, X.ok2 b → w'.heap[b]? = w.heap[b]?) a w

def thenA (K : Fr → Hp → Prop) (Q : Exit → Fr → Hp → Prop) : Exit → Fr → Hp → Prop
  | .normal, fr, h => K fr h
  | e, fr, h => Q e fr h

variable {n : Nat} {fr : Fr} {h : Hp} {Q : Exit → Fr → Hp → Prop}

theorem Ex.mono {c : Code} {Q' : Exit → Fr → Hp → Prop} (hx : Ex P n c fr h Q) (hq : ∀ e fr h, Q e fr h → Q' e fr h) : Ex P n c fr h Q' := fun X B a w hS hF hd =>
  wp_mono (hx X B a w hS hF hd) fun e a' w' ⟨fr', h', X', h1, h2⟩ => ⟨fr', h', X', hq _ _ _ h1, h2⟩

/-- Behind a first part the second one. -/
theorem wp_thenA {X : Cx} {B : Base} {w : World} {c d : Code} {a : Act} (K : Fr → Hp → Prop)
    (h1 : c.wp P (fun e a' w' => ∃ fr' h' X', thenA K Q e fr' h' ∧ X.le X' ∧ SRh X' B (hf h') w' ∧ FrOK X' w' n (Fr.get fr') a' ∧ a'.defers = [] ∧ ∀ b, X.ok2 b → w'.heap[b]? = w.heap[b]?) a w)
    (h2 : ∀ fr h, K fr h → Ex P n d fr h Q) :
    c.wp P (Exit.then (d.wp P (fun e a' w' => ∃ fr' h' X', Q e fr' h' ∧ X.le X' ∧ SRh X' B (hf h') w' ∧ FrOK X' w' n (Fr.get fr') a' ∧ a'.defers = [] ∧ ∀ b, X.ok2 b → w'.heap[b]? = w.heap[b]?)) (fun e a' w' => ∃ fr' h' X', Q e fr' h' ∧ X.le X' ∧ SRh X' B (hf h') w' ∧ FrOK X' w' n (Fr.get fr') a' ∧ a'.defers = [] ∧ ∀ b, X.ok2 b → w'.heap[b]? = w.heap[b]?)) a w := by
  refine wp_mono h1 fun e a' w' hh => ?_
  obtain ⟨fr', h', X', k1, k2, k3, k4, k5, k6⟩ := hh
  cases e with
  | normal =>
    refine wp_mono (h2 fr' h' k1 X' B a' w' k3 k4 k5) fun e a2 w2 hh => ?_
    obtain ⟨fr2, h2', X2, g1, g2, g3, g4, g5, g6⟩ := hh
    exact ⟨fr2, h2', X2, g1, k2.trans g2, g3, g4, g5, fun b hb => (g6 b (k2.ok2 b hb)).trans (k6 b hb)⟩
  | exit id => exact ⟨fr', h', X', k1, k2, k3, k4, k5, k6⟩
  | goto l => exact ⟨fr', h', X', k1, k2, k3, k4, k5, k6⟩
  | ret => exact ⟨fr', h', X', k1, k2, k3, k4, k5, k6⟩
  | panic ch => exact ⟨fr', h', X', k1, k2, k3, k4, k5, k6⟩
  | outgrown => exact ⟨fr', h', X', k1, k2, k3, k4, k5, k6⟩

theorem ex_seq {c d : Code} (K : Fr → Hp → Prop) (h1 : Ex P n c fr h (thenA K Q)) (h2 : ∀ fr h, K fr h → Ex P n d fr h Q) : Ex P n (.seq c d) fr h Q := fun X B a w hS hF hd => by
  refine wp_seq ?_
  exact wp_thenA K (h1 X B a w hS hF hd) h2

/-- What follows under one name. -/
theorem ex_seq_k {c d : Code} (h1 : ∀ K : Fr → Hp → Prop, (∀ fr h, Ex P n d fr h Q → K fr h) → Ex P n c fr h (thenA K Q)) : Ex P n (.seq c d) fr h Q :=
  ex_seq (fun fr h => Ex P n d fr h Q) (h1 _ fun _ _ h => h) (fun _ _ h => h)

theorem ex_skip (hq : Q .normal fr h) : Ex P n .skip fr h Q := fun X B a w hS hF hd => wp_skip ⟨fr, h, X, hq, Cx.le.refl X, hS, hF, hd, fun _ _ => rfl⟩
theorem ex_exit {id : Nat} (hq : Q (.exit id) fr h) : Ex P n (.exit id) fr h Q := fun X B a w hS hF hd => wp_exit ⟨fr, h, X, hq, Cx.le.refl X, hS, hF, hd, fun _ _ => rfl⟩
theorem ex_ret (hq : Q .ret fr h) : Ex P n .ret fr h Q := fun X B a w hS hF hd => wp_ret ⟨fr, h, X, hq, Cx.le.refl X, hS, hF, hd, fun _ _ => rfl⟩

theorem ex_cond {c : Operand} {x y : Code} {t : Bool} (hc : evO fr c = some (.pv (.bool t))) (h1 : t = true → Ex P n x fr h Q) (h2 : t = false → Ex P n y fr h Q) : Ex P n (.cond c x y) fr h Q := fun X B a w hS hF hd => by
  have hv : VR X w (.pv (.bool t)) (a.eval c) := evO_rel (ins := match c with | .tmp s => [(s, .pv (.bool t))] | _ => []) (fun s av hm => by
    cases c with
    | tmp s' =>
      simp only [List.mem_singleton, Prod.mk.injEq] at hm
      obtain ⟨rfl, rfl⟩ := hm
      obtain ⟨v, k1, k2⟩ := hF.slot s _ hc
      rw [Array.getD_eq_getD_getElem?, k1]
      exact k2
    | _ => simp at hm) (fun s e av hav => by
    subst e
    simp only [evO] at hc
    rw [hc] at hav
    cases hav
    exact List.mem_singleton.2 rfl) _ hc
  have e := hv.pv_inv
  refine wp_cond_split e (fun ht => h1 ht X B a w hS hF hd) (fun ht => h2 ht X B a w hS hF hd)

def blkA (id : Nat) (Q : Exit → Fr → Hp → Prop) : Exit → Fr → Hp → Prop
  | .exit i, fr, h => if i = id then Q .normal fr h else Q (.exit i) fr h
  | e, fr, h => Q e fr h

theorem ex_block {id : Nat} {c : Code} (hc : Ex P n c fr h (blkA id Q)) : Ex P n (.block id c) fr h Q := fun X B a w hS hF hd => by
  refine wp_block (wp_mono (hc X B a w hS hF hd) fun e a' w' hh => ?_)
  obtain ⟨fr', h', X', k1, k2⟩ := hh
  cases e with
  | exit i =>
    simp only [Exit.inBlock]
    simp only [blkA] at k1
    split
    · rename_i e; rw [if_pos e] at k1; exact ⟨fr', h', X', k1, k2⟩
    · rename_i e; rw [if_neg e] at k1; exact ⟨fr', h', X', k1, k2⟩
  | normal => exact ⟨fr', h', X', k1, k2⟩
  | goto l => exact ⟨fr', h', X', k1, k2⟩
  | ret => exact ⟨fr', h', X', k1, k2⟩
  | panic ch => exact ⟨fr', h', X', k1, k2⟩
  | outgrown => exact ⟨fr', h', X', k1, k2⟩

theorem ex_region {tt : TT} (htt : TTOk P tt) {id : Nat} {ops : Array Oper} (hd : (ops.toList.all fun o => match o.dst with | some d => decide (d < n) | none => true) = true) (hr : RunL P tt ops ops.toList fr h [] fun fr' h' _ => Q .normal fr' h') : Ex P n (.region id ops false) fr h Q := fun X B a w hS hF hdf => by
  have hdst : ∀ i k, dstOf ops i = some k → k < n := fun i k hk => by
    simp only [dstOf] at hk
    cases ho : ops[i]? with
    | none => rw [ho] at hk; cases hk
    | some o =>
      rw [ho] at hk
      rw [List.all_eq_true] at hd
      have := hd o (by rw [Array.mem_toList_iff]; exact Array.mem_of_getElem? ho)
      simp only [Option.bind_some] at hk
      rw [hk] at this
      simpa using this
  obtain ⟨rs, fr', h', k1, k2, k3⟩ := runL_sound htt ops.toList 0 fr h [] rfl hr
  refine wp_region ?_
  rw [List.range_eq_range', show ops.size = rs.length from by rw [k2]; simp]
  exact tr_text hdst k1 hS hF (fun X' w' a' g1 g2 g3 g4 g5 => ⟨fr', h', X', k3, g1, g2, g3, g5.trans hdf, g4⟩)

theorem ex_region_any {tt : TT} (htt : TTOk P tt) (hm : P.follows .mixedOrders = true) {id : Nat} {ops : Array Oper} (hd : (ops.toList.all fun o => match o.dst with | some d => decide (d < n) | none => true) = true) (hr : RunL P tt ops ops.toList fr h [] fun fr' h' lg => chk ops lg.reverse = true ∧ Q .normal fr' h') : Ex P n (.region id ops true) fr h Q := fun X B a w hS hF hdf => by
  have hdst : ∀ i k, dstOf ops i = some k → k < n := fun i k hk => by
    simp only [dstOf] at hk
    cases ho : ops[i]? with
    | none => rw [ho] at hk; cases hk
    | some o =>
      rw [ho] at hk
      rw [List.all_eq_true] at hd
      have := hd o (by rw [Array.mem_toList_iff]; exact Array.mem_of_getElem? ho)
      simp only [Option.bind_some] at hk
      rw [hk] at this
      simpa using this
  obtain ⟨rs, fr', h', k1, k2, k3, k4⟩ := runL_sound htt ops.toList 0 fr h [] rfl hr
  rw [List.append_nil, List.reverse_reverse] at k3
  obtain ⟨g1, g2, g3, g4⟩ := chk_sound k1 (by rw [k2]; simp) k3
  refine region_sound hm g1 g2 hdst hS hF (fun X' w' a' q1 q5 q2 q3 q4 => ⟨fr', h', X', k4, q1, by rw [g4]; exact q2, by rw [g3]; exact q3, q4.trans hdf, q5⟩)

/-- Less is known of the frame. -/
def Cov (f F : Fr) : Prop := ∀ t av, f.get t = some av → F.get t = some av
theorem Cov.refl (f : Fr) : Cov f f := fun _ _ h => h
theorem Cov.nil {F : Fr} : Cov [] F := fun t av h => by cases h
theorem Cov.cons {t : Nat} {av : AV} {f F : Fr} (h : F.get t = some av) (k : Cov f F) : Cov ((t, av) :: f) F := fun s a hs => by
  simp only [Fr.get_cons] at hs
  split at hs
  · rename_i e; subst e; cases hs; exact h
  · exact k s a hs

/-- Less is known of the heap of ids: some entries are dead. -/
structure HW (h h' : Hp) : Prop where
  ent : ∀ id ge, wfind h' id = some ge → ∃ e, wfind h id = some (ge.1, e) ∧ (ge.2 = e ∨ ge.2 = .dead)
  dom : ∀ id, wfind h' id = none → wfind h id = none
theorem HW.refl (h : Hp) : HW h h := ⟨fun id ge hg => ⟨ge.2, hg, .inl rfl⟩, fun _ h => h⟩

/-- Entry by entry. -/
inductive HE (h : Hp) : Hp → Prop
  | nil : HE h []
  | same {id : Nat} {ge : Nat × Ent} {r : Hp} (he : wfind h id = some ge) (t : HE h r) : HE h ((id, ge) :: r)
  | kill {id g : Nat} {e : Ent} {r : Hp} (he : wfind h id = some (g, e)) (t : HE h r) : HE h ((id, (g, .dead)) :: r)
def domB (h h' : Hp) : Bool := h.all fun p => h'.any fun q => Nat.beq p.1 q.1
theorem HE.ent {h h' : Hp} (k : HE h h') : ∀ id ge, wfind h' id = some ge → ∃ e, wfind h id = some (ge.1, e) ∧ (ge.2 = e ∨ ge.2 = .dead) := by
  induction k with
  | nil => intro id ge hg; cases hg
  | same he t ih =>
    intro i ge' hg
    rw [wfind_cons] at hg
    split at hg
    · rename_i e; subst e; cases hg; exact ⟨_, he, .inl rfl⟩
    · exact ih i ge' hg
  | kill he t ih =>
    intro i ge' hg
    rw [wfind_cons] at hg
    split at hg
    · rename_i e; subst e; cases hg; exact ⟨_, he, .inr rfl⟩
    · exact ih i ge' hg
theorem wfind_mem {h : Hp} {id : Nat} {ge : Nat × Ent} : wfind h id = some ge → ∃ p ∈ h, p.1 = id := by
  induction h with
  | nil => intro hg; cases hg
  | cons p r ih =>
    intro hg
    obtain ⟨i, g⟩ := p
    rw [wfind_cons] at hg
    split at hg
    · exact ⟨_, List.mem_cons_self .., ‹_›⟩
    · obtain ⟨q, h1, h2⟩ := ih hg
      exact ⟨q, List.mem_cons_of_mem _ h1, h2⟩
theorem wfind_some_of_mem {h : Hp} {id : Nat} (hm : ∃ p ∈ h, p.1 = id) : ∃ ge, wfind h id = some ge := by
  induction h with
  | nil => obtain ⟨p, hp, _⟩ := hm; cases hp
  | cons p r ih =>
    obtain ⟨i, g⟩ := p
    rw [wfind_cons]
    split
    · exact ⟨_, rfl⟩
    · rename_i hne
      obtain ⟨q, hq, e⟩ := hm
      rw [List.mem_cons] at hq
      rcases hq with rfl | hq
      · exact absurd e hne
      · exact ih ⟨q, hq, e⟩
theorem HE.hw {h h' : Hp} (k : HE h h') (hd : domB h h' = true) : HW h h' := by
  refine ⟨k.ent, fun id hn => ?_⟩
  cases hg : wfind h id with
  | none => rfl
  | some ge =>
    obtain ⟨p, h1, h2⟩ := wfind_mem hg
    unfold domB at hd
    rw [List.all_eq_true] at hd
    have h3 := hd p h1
    rw [List.any_eq_true] at h3
    obtain ⟨q, h4, h5⟩ := h3
    obtain ⟨ge', h6⟩ := wfind_some_of_mem (h := h') (id := id) ⟨q, h4, by rw [← Nat.eq_of_beq_eq_true h5, h2]⟩
    rw [hn] at h6
    cases h6
theorem SRh.weak {X : Cx} {B : Base} {h h' : Hp} {w : World} (H : SRh X B (hf h) w) (k : HW h h') : SRh X B (hf h') w := by
  obtain ⟨F, H⟩ := H
  have get : ∀ id ge, hf h' id = some ge → ∃ e, hf h id = some (ge.1, e) ∧ (ge.2 = e ∨ ge.2 = .dead) := fun id ge hg => k.ent id ge hg
  refine ⟨F, { H with ent := fun id g e he => ?_, blk := fun id ge b he hb => ?_, sep := fun id id' ge ge' b he he' hb hb' => ?_, ok2 := fun b hb => ⟨(H.ok2 b hb).1, fun id ge he hm => ?_⟩, own := fun id ge b he hb => ?_, hist := fun id g hg => ?_ }⟩
  · obtain ⟨e', h1, h2⟩ := get id _ he
    rcases h2 with h2 | h2
    · simp only at h2; subst h2; exact H.ent id g _ h1
    · simp only at h2; subst h2; trivial
  · obtain ⟨e', h1, _⟩ := get id _ he
    exact H.blk id _ b h1 hb
  · obtain ⟨e1, h1, _⟩ := get id _ he
    obtain ⟨e2, h2, _⟩ := get id' _ he'
    exact H.sep id id' _ _ b h1 h2 hb hb'
  · obtain ⟨e', h1, _⟩ := get id _ he
    exact (H.ok2 b hb).2 id _ h1 hm
  · obtain ⟨e', h1, _⟩ := get id _ he
    exact H.own id _ b h1 hb
  · refine H.hist id g (fun g' e hh => ?_)
    cases h3 : hf h' id with
    | none => have := k.dom id h3; rw [show wfind h id = hf h id from rfl, hh] at this; cases this
    | some ge =>
      obtain ⟨e', h4, _⟩ := get id _ h3
      rw [hh] at h4
      cases h4
      exact hg _ _ h3

theorem ex_weak {c : Code} {fr' : Fr} {h' : Hp} (hf' : Cov fr' fr) (hh : HW h h') (hx : Ex P n c fr' h' Q) : Ex P n c fr h Q := fun X B a w hS hF hd =>
  hx X B a w (hS.weak hh) ⟨hF.size, fun k av hk => hF.slot k av (hf' k av hk)⟩ hd

/-- A loop by its rounds. -/
theorem ex_loop {ι : Type} {c : Code} (fI : ι → Fr) (hI : ι → Hp) (ok : ι → Prop) (μ : ι → Nat) (i0 : ι) (h0 : ok i0) (hf0 : Cov (fI i0) fr) (hh0 : HW h (hI i0))
    (step : ∀ i, ok i → Ex P n c (fI i) (hI i) (thenA (fun fr' h' => ∃ i', ok i' ∧ μ i' < μ i ∧ Cov (fI i') fr' ∧ HW h' (hI i')) Q)) : Ex P n (.loop c) fr h Q := by
  intro X B a w hS hF hd
  have key : ∀ (m : Nat) (i : ι) (X1 : Cx) (a1 : Act) (w1 : World), μ i ≤ m → ok i → X.le X1 → SRh X1 B (hf (hI i)) w1 → FrOK X1 w1 n (Fr.get (fI i)) a1 → a1.defers = [] → (∀ b, X.ok2 b → w1.heap[b]? = w.heap[b]?) →
      Code.rounds P c (fun e a' w' => ∃ fr' h' X', Q e fr' h' ∧ X.le X' ∧ SRh X' B (hf h') w' ∧ FrOK X' w' n (Fr.get fr') a' ∧ a'.defers = [] ∧ ∀ b, X.ok2 b → w'.heap[b]? = w.heap[b]?) (m + 1) a1 w1 := by
    intro m
    induction m using Nat.strongRecOn with
    | _ m ih =>
      intro i X1 a1 w1 hm h1 h2 h3 h4 h5 h6
      rw [rounds_succ]
      refine wp_mono (step i h1 X1 B a1 w1 h3 h4 h5) fun e a2 w2 hh => ?_
      obtain ⟨fr2, h2', X2, k1, k2, k3, k4, k5, k6⟩ := hh
      have kk : ∀ b, X.ok2 b → w2.heap[b]? = w.heap[b]? := fun b hb => (k6 b (h2.ok2 b hb)).trans (h6 b hb)
      cases e with
      | normal =>
        obtain ⟨i', g1, g2, g3, g4⟩ := k1
        cases m with
        | zero => omega
        | succ m => exact ih m (Nat.lt_succ_self m) i' X2 a2 w2 (by omega) g1 (h2.trans k2) (k3.weak g4) ⟨k4.size, fun k av hk => k4.slot k av (g3 k av hk)⟩ k5 kk
      | exit id => exact ⟨fr2, h2', X2, k1, h2.trans k2, k3, k4, k5, kk⟩
      | goto l => exact ⟨fr2, h2', X2, k1, h2.trans k2, k3, k4, k5, kk⟩
      | ret => exact ⟨fr2, h2', X2, k1, h2.trans k2, k3, k4, k5, kk⟩
      | panic ch => exact ⟨fr2, h2', X2, k1, h2.trans k2, k3, k4, k5, kk⟩
      | outgrown => exact ⟨fr2, h2', X2, k1, h2.trans k2, k3, k4, k5, kk⟩
  exact wp_loop_rounds _ (key (μ i0) i0 X a w (Nat.le_refl _) h0 (Cx.le.refl X) (hS.weak hh0) ⟨hF.size, fun k av hk => hF.slot k av (hf0 k av hk)⟩ hd (fun _ _ => rfl))
end Go.Proofs.Ytcleiaibcfocdaa.Am
