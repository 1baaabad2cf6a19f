/- The abstract machine, part 22: contracts with entries, out of walks; calls of them. -/
import Derived.Test.YtcleiaibcfocdaaAm21
set_option linter.unusedVariables false
set_option linter.unusedSimpArgs false
namespace Go.Proofs.Ytcleiaibcfocdaa.Am
open Go Go.RowKit
variable {P : Program}

def deadsFrom (m : Nat) : Nat → Hp
  | 0 => []
  | k + 1 => (m + k, (0, .dead)) :: deadsFrom m k
theorem deadsFrom_get {m id : Nat} {ge : Nat × Ent} : ∀ {k : Nat}, wfind (deadsFrom m k) id = some ge → ge = (0, .dead) ∧ m ≤ id
  | 0, h => by cases h
  | k + 1, h => by
    rw [deadsFrom, wfind_cons] at h
    split at h
    · rename_i e; cases h; exact ⟨rfl, by omega⟩
    · exact deadsFrom_get h

/-- More ids, all free. -/
theorem SRh.more {X : Cx} {B : Base} {h : Hp} {w : World} (H : SRh X B (hf h) w) (m k : Nat) (hm : ∀ p ∈ h, p.1 < m) : SRh X B (hf (h ++ deadsFrom m k)) w := by
  obtain ⟨F, H⟩ := H
  have hlt : ∀ id ge, wfind h id = some ge → id < m := fun id ge hg => hm _ (wfind_in hg)
  have get : ∀ id ge, hf (h ++ deadsFrom m k) id = some ge → hf h id = some ge ∨ (wfind h id = none ∧ ge = (0, .dead) ∧ m ≤ id) := fun id ge hg => by
    simp only [hf, wfind_append] at hg ⊢
    cases hw : wfind h id with
    | some g => rw [hw] at hg; exact .inl hg
    | none => rw [hw] at hg; exact .inr ⟨rfl, deadsFrom_get hg⟩
  let F' : Nat → List Nat := fun i => if i < m then F i else []
  have mem : ∀ id ge b, hf (h ++ deadsFrom m k) id = some ge → b ∈ F' id → hf h id = some ge ∧ b ∈ F id := fun id ge b hg hb => by
    rcases get id ge hg with h1 | ⟨_, _, h1⟩
    · simp only [F', hlt id ge h1, if_true] at hb
      exact ⟨h1, hb⟩
    · simp only [F', Nat.not_lt.2 h1, if_false] at hb
      cases hb
  refine ⟨F', { H with ent := fun id g e he => ?_, blk := fun id ge b he hb => ?_, sep := fun id id' ge ge' b he he' hb hb' => ?_, ok2 := fun b hb => ⟨(H.ok2 b hb).1, fun id ge he hm => ?_⟩, own := fun id ge b he hb => ?_, hist := fun id g hg => ?_ }⟩
  · rcases get id _ he with h1 | ⟨_, h1, _⟩
    · have := H.ent id g e h1
      simpa only [F', hlt id _ h1, if_true] using this
    · cases h1; trivial
  · obtain ⟨h1, h2⟩ := mem id ge b he hb; exact H.blk id ge b h1 h2
  · obtain ⟨h1, h2⟩ := mem id ge b he hb
    obtain ⟨h3, h4⟩ := mem id' ge' b he' hb'
    exact H.sep id id' ge ge' b h1 h3 h2 h4
  · obtain ⟨h1, h2⟩ := mem id ge b he hm
    exact (H.ok2 b hb).2 id ge h1 h2
  · obtain ⟨h1, h2⟩ := mem id ge b he hb; exact H.own id ge b h1 h2
  · refine H.hist id g (fun g' e hh => hg g' e ?_)
    simp only [hf] at hh ⊢
    rw [wfind_append, hh]

/-- What a function hands back of the heap of ids: U0 under the generations γ', else I0 under γ. -/
theorem SRh.trunc {X : Cx} {B : Base} {h : Hp} {w : World} {m : Nat} {I0 U0 : Hp} {γ γ' : Gn} (H : SRh X B (hf h) w) (hi1 : ∀ p ∈ I0, p.1 < m) (hi2 : ∀ i, i < m → ∃ ge, wfind I0 i = some ge) (hu1 : ∀ p ∈ U0, p.1 < m) (ib : ∀ p ∈ I0, BndE m p.2.2) (ub : ∀ p ∈ U0, BndE m p.2.2)
    (k : HE h (U0.map (insH idf γ') ++ (restH U0 I0).map (insH idf γ))) :
    ∃ Y : Cx, Sim m idf γ' idf γ' X Y ∧ Y.ok1 = X.ok1 ∧ Y.ok2 = X.ok2 ∧ (∀ i g, i < m → Y.bx i g = X.bx i g ∧ Y.rw i g = X.rw i g) ∧ (∀ i g, m ≤ i → Y.bx i g = none ∧ Y.rw i g = none) ∧ SRh Y B (hf (U0.map (insH idf γ') ++ (restH U0 I0).map (insH idf γ))) w := by
  obtain ⟨F, H⟩ := H
  let Y : Cx := ⟨X.ok1, X.ok2, fun i g => if i < m then X.bx i g else none, fun i g => if i < m then X.rw i g else none⟩
  have S : ∀ c : Gn, Sim m idf c idf c X Y := fun c => ⟨fun _ h => h, fun _ h => h, fun i hi => by simp [Y, hi, idf], fun i hi => by simp [Y, hi, idf]⟩
  let Hc : Hp := U0.map (insH idf γ') ++ (restH U0 I0).map (insH idf γ)
  have get : ∀ id ge, wfind Hc id = some ge → ∃ e, hf h id = some (ge.1, e) ∧ (ge.2 = e ∨ ge.2 = .dead) := fun id ge hg => k.ent id ge hg
  have hr1 : ∀ p ∈ restH U0 I0, p.1 < m := fun p hp => hi1 p (restH_mem hp)
  have cas : ∀ id ge, wfind Hc id = some ge → id < m ∧ ((∃ ge0, wfind U0 id = some ge0 ∧ ge = (γ' id, inE idf γ' ge0.2)) ∨ ∃ ge0, wfind I0 id = some ge0 ∧ ge = (γ id, inE idf γ ge0.2)) := fun id ge hg => by
    rw [wfind_append] at hg
    by_cases him : id < m
    · refine ⟨him, ?_⟩
      have e1 := wfind_ins (ρ := idf) (c := γ') (m := m) (fun _ _ _ _ e => e) hu1 id him
      have e2 := wfind_ins (ρ := idf) (c := γ) (m := m) (fun _ _ _ _ e => e) hr1 id him
      rw [show wfind (U0.map (insH idf γ')) id = _ from e1, show wfind ((restH U0 I0).map (insH idf γ)) id = _ from e2] at hg
      cases hw : wfind U0 id with
      | some ge0 => rw [hw] at hg; cases hg; exact .inl ⟨ge0, rfl, rfl⟩
      | none =>
        rw [hw, restH_find, hasN_iff, hw] at hg
        simp only [Option.map_none, Option.isSome_none, Bool.false_eq_true, if_false] at hg
        cases hI : wfind I0 id with
        | none => rw [hI] at hg; cases hg
        | some ge0 => rw [hI] at hg; cases hg; exact .inr ⟨ge0, rfl, rfl⟩
    · rw [wfind_ins_none (m := m) hu1 id (fun k hk e => him (by simp only [idf] at e; omega)), wfind_ins_none (m := m) hr1 id (fun k hk e => him (by simp only [idf] at e; omega))] at hg
      cases hg
  refine ⟨Y, S γ', rfl, rfl, fun i g hi => ⟨by simp [Y, hi], by simp [Y, hi]⟩, fun i g hi => ⟨by simp [Y, Nat.not_lt.2 hi], by simp [Y, Nat.not_lt.2 hi]⟩, F, ?_, ?_, ?_, ?_, H.ok12, H.in1, H.in2, ?_, ?_, H.os, H.tape, H.output, H.size, H.keep⟩
  · intro id g e he
    obtain ⟨e', h1, h2⟩ := get id _ he
    rcases h2 with h2 | h2
    · simp only at h2; subst h2
      have he' := H.ent id g e h1
      obtain ⟨him, hc⟩ := cas id _ he
      rcases hc with ⟨ge0, q1, q2⟩ | ⟨ge0, q1, q2⟩
      · cases q2
        exact EntOK.tr (S γ') H.ok12 him (ub _ (wfind_in q1)) he'
      · cases q2
        exact EntOK.tr (S γ) H.ok12 him (ib _ (wfind_in q1)) he'
    · simp only at h2; subst h2; trivial
  · intro id ge b he hb
    obtain ⟨e', h1, _⟩ := get id _ he
    exact H.blk id _ b h1 hb
  · intro id id' ge ge' b he he' hb hb'
    obtain ⟨e1, h1, _⟩ := get id _ he
    obtain ⟨e2, h2, _⟩ := get id' _ he'
    exact H.sep id id' _ _ b h1 h2 hb hb'
  · refine fun b hb => ⟨(H.ok2 b hb).1, fun id ge he hm => ?_⟩
    obtain ⟨e', h1, _⟩ := get id _ he
    exact (H.ok2 b hb).2 id _ h1 hm
  · intro id ge b he hb
    obtain ⟨e', h1, _⟩ := get id _ he
    exact H.own id _ b h1 hb
  · intro id g hg
    by_cases hm : id < m
    · obtain ⟨ge, h1⟩ : ∃ ge, wfind Hc id = some ge := by
        rw [wfind_append]
        have e1 := wfind_ins (ρ := idf) (c := γ') (m := m) (fun _ _ _ _ e => e) hu1 id hm
        have e2 := wfind_ins (ρ := idf) (c := γ) (m := m) (fun _ _ _ _ e => e) hr1 id hm
        rw [show wfind (U0.map (insH idf γ')) id = _ from e1, show wfind ((restH U0 I0).map (insH idf γ)) id = _ from e2]
        cases hw : wfind U0 id with
        | some ge0 => exact ⟨_, rfl⟩
        | none =>
          rw [restH_find, hasN_iff, hw]
          obtain ⟨ge0, hI⟩ := hi2 id hm
          exact ⟨_, by simp only [Option.map_none, Option.isSome_none, Bool.false_eq_true, if_false, hI, Option.map_some]; rfl⟩
      obtain ⟨e', h4, _⟩ := get id _ h1
      have := H.hist id g (fun g' e hh => by
        rw [h4] at hh
        cases hh
        exact hg _ _ h1)
      simpa [Y, hm] using this
    · simp [Y, hm]

/-- A contract out of a walk. k: how many ids the function uses for itself. -/
theorem meth_of_ex {tt : TT} (htt : TTOk P tt) {f : FuncId} {fn : Func} {c : Code} (hfn : P.funcs[f]? = some fn) (hname : (fn.name == "runtime.NumGoroutine") = false) (hb : fn.body = some c) {kp : List Nat} {A0 : List AV} {I0 U0 : Hp} {O0 : List AV} (m k : Nat) (hn : A0.length ≤ fn.ntmps)
    (hok : mokB m kp A0 I0 (one1 O0) U0 = true) (ib : BndH m I0) (ub : BndH m U0) (hbo : (O0.all (bndA m)) = true)
    (hx : ∀ γ : Gn, Ex P fn.ntmps c (argsFr (A0.map (inT idf γ))) (I0.map (insH idf γ) ++ deadsFrom m k) fun e fr h => (e = .normal ∨ e = .ret) ∧ ∃ g' : List Nat, kp.map (gl g') = kp.map γ ∧ resA tt fr h fn.results.toList = some (O0.map (inA idf (gl g'))) ∧ HE h (U0.map (insH idf (gl g')) ++ (restH U0 I0).map (insH idf γ))) :
    Meth P f m kp A0 I0 (one1 O0) U0 := by
  have hok' := hok
  simp only [mokB, Bool.and_eq_true] at hok'
  obtain ⟨⟨⟨⟨⟨o1, o2⟩, o3⟩, o4⟩, o5⟩, o6⟩ := hok'
  have hi1 : ∀ p ∈ I0, p.1 < m := fun p hp => blt_lt (List.all_eq_true.1 o1 p hp)
  have hi2 : ∀ i, i < m → ∃ ge, wfind I0 i = some ge := fun i hi => by
    have := List.all_eq_true.1 o2 i (below_mem.2 hi)
    rw [hasN_iff] at this
    exact Option.isSome_iff_exists.1 this
  have hu1 : ∀ p ∈ U0, p.1 < m := fun p hp => blt_lt (List.all_eq_true.1 o3 p hp)
  refine ⟨⟨⟨fn, c, hfn, hname, hb⟩, fun X B w vs γ hS hl hr => ?_⟩, hok, ib, ub⟩
  have hin : ∀ p ∈ I0.map (insH idf γ), p.1 < m := fun p hp => by
    obtain ⟨q, hq, rfl⟩ := List.mem_map.1 hp
    exact hi1 q hq
  refine calls_of_wp hfn hb (wp_mono (hx γ X _ _ w (hS.more m k hin) (argsFr_ok (by rw [List.length_map]; exact hl) (by rw [List.length_map]; exact hn) hr) rfl) fun e a' w' hh => ?_)
  obtain ⟨fr', h', X', ⟨he, g', hkp, hres, hw⟩, k2, k3, k4, k5, k6⟩ := hh
  obtain ⟨us, g1, g2, g3⟩ := results_run htt k3 k4 hres
  obtain ⟨Y, S, q1, q2, q3, q4, q5⟩ := k3.trunc hi1 hi2 hu1 ib.all ub.all hw
  have hXY : X.le Y := by
    have out : ∀ i g, ¬ i < m → X.bx i g = none ∧ X.rw i g = none := fun i g hi => hS.hist i g (fun g' e h2 => by
      have := hin _ (wfind_in h2)
      exact absurd this hi)
    refine ⟨fun b h => by rw [q1]; exact k2.ok1 b h, fun b h => by rw [q2]; exact k2.ok2 b h, fun i g b h => ?_, fun i g b h => ?_⟩
    · by_cases hi : i < m
      · rw [(q3 i g hi).1]; exact k2.bx i g b h
      · rw [(out i g hi).1] at h; cases h
    · by_cases hi : i < m
      · rw [(q3 i g hi).2]; exact k2.rw i g b h
      · rw [(out i g hi).2] at h; cases h
  have g3' : ∀ (i : Nat) (b : AV) (v : Value), (O0.map (inA idf (gl g')))[i]? = some b → us[i]? = some v → VR Y w' b v :=
    map_tr (fun a v ha h => inA_tr S k3.ok12 (List.all_eq_true.1 hbo a ha) h) g3
  have hkp' : ∀ i ∈ kp, gl g' i = γ i := fun i hi => by
    have := List.map_inj_left.1 hkp i hi
    exact this
  have post : a'.defers = [] ∧ ∃ v, (results fn a'.tmps).run P w' = .ok v w' ∧ ∃ v', Ending.returned v = .returned v' ∧ ∃ γ' : Gn, (∀ i ∈ kp, γ' i = γ i) ∧ ∃ X', X.le X' ∧ SRh X' B (hf (U0.map (insH idf γ') ++ (restH U0 I0).map (insH idf γ))) w' ∧ (∀ b, X.ok2 b → w'.heap[b]? = w.heap[b]?) ∧ VR X' w' (inT idf γ' (one1 O0)) v' := by
    refine ⟨k5, _, g1, _, rfl, gl g', hkp', Y, hXY, q5, k6, ?_⟩
    rw [List.length_map] at g2
    by_cases h1 : us.length = 1
    · rw [dif_pos h1]
      obtain ⟨u, rfl⟩ := List.length_eq_one_iff.1 h1
      obtain ⟨b, rfl⟩ := List.length_eq_one_iff.1 (g2.symm.trans h1)
      have h0 := g3' 0 _ u rfl rfl
      have : inT idf (gl g') (one1 [b]) = inA idf (gl g') b := by
        have hbb := List.all_eq_true.1 hbo b (by simp)
        cases b with
        | tup cs => simp [bndA, bndC, bndB] at hbb
        | _ => rfl
      rw [this]; exact h0
    · rw [dif_neg h1]
      have : one1 O0 = .tup O0 := by
        match O0, g2 with
        | [], _ => rfl
        | [b], hlo => exact absurd hlo h1
        | _ :: _ :: _, _ => rfl
      rw [this]
      exact .tup us (by rw [List.length_map]; exact g2) g3'
  rcases he with rfl | rfl
  · exact post
  · exact post

/-- A call with entries. L: the caller's numbers for the callee's ids; gs: their generations. -/
theorem rl_meth {tt : TT} {ops : Array Oper} {r : List Oper} {fr : Fr} {h : Hp} {lg : Log} {K : Fr → Hp → Log → Prop} {d : Nat} {ty : TypeId} {pos : String} {af : Array Edge} {f : FuncId} {x : Operand} {args : Array Operand} {at' : Array TypeId} {fi cap avs : List AV} {m : Nat} {kp : List Nat} {A0 : List AV} {I0 U0 T W : Hp} {O0 out : AV}
    (L gs : List Nat) (hM : Meth P f m kp A0 I0 O0 U0) (hf : evO fr x = some (.fn (.func f) fi cap)) (ha : evL (evO fr) args.toList = some avs) (he : fi ++ avs ++ cap = A0.map (inT (gl L) (gl gs))) (hn : L.Nodup) (hL : L.length = m)
    (hT : I0.map (insH (gl L) (gl gs)) = T) (hi : InH h T) (ho : inT (gl L) (nx kp (gl gs)) O0 = out) (hw : U0.map (insH (gl L) (nx kp (gl gs))) = W)
    (k : RunL P tt ops r ((d, out) :: fr) (W ++ h) ((ids T, ids W) :: lg) K) :
    RunL P tt ops (⟨some d, .call { callee := .value x, args := args, argTypes := at' }, ty, pos, af, none⟩ :: r) fr h lg K := by
  subst ho hw hT
  have hC := meth_call hM L (gl gs) hn hL
  rw [← he] at hC
  refine rl_inl ?_; simp only [StepK, Opt, hf, ha]
  refine ⟨_, _, _, hC, hi, fun p hp => ?_, k⟩
  have hok := hM.ok
  simp only [mokB, Bool.and_eq_true] at hok
  obtain ⟨⟨⟨⟨⟨o1, o2⟩, o3⟩, o4⟩, o5⟩, o6⟩ := hok
  obtain ⟨q, hq, rfl⟩ := List.mem_map.1 hp
  have hq1 := blt_lt (List.all_eq_true.1 o3 q hq)
  have := List.all_eq_true.1 o2 q.1 (below_mem.2 hq1)
  rw [hasN_iff] at this
  obtain ⟨ge, hg⟩ := Option.isSome_iff_exists.1 this
  exact ⟨_, List.mem_map.2 ⟨(q.1, ge), wfind_in hg, rfl⟩⟩
end Go.Proofs.Ytcleiaibcfocdaa.Am
