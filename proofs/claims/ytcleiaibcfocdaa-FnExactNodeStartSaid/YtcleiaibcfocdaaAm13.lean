/- The abstract machine, part 13: regions by evaluation. -/
import Derived.Test.YtcleiaibcfocdaaAm12
set_option linter.unusedVariables false
set_option linter.unusedSimpArgs false
namespace Go.Proofs.Ytcleiaibcfocdaa.Am
open Go Go.RowKit

variable {P : Program}

def putO (fr : Fr) : Option Nat → AV → Fr
  | none, _ => fr
  | some k, v => (k, v) :: fr
theorem putO_get (fr : Fr) (d : Option Nat) (v : AV) : (putO fr d v).get = fput fr.get d v := by
  funext j
  cases d with
  | none => rfl
  | some k =>
    simp only [putO, Fr.get_cons, fput]
    by_cases e : k = j
    · simp [e]
    · simp [e, Ne.symm e]
def updL (h : Hp) (W : TL) : Hp := W ++ h
theorem updL_hf {h : Hp} : ∀ {W : TL}, hf (updL h W) = upds (hf h) W
  | [] => rfl
  | (id, ge) :: W => by
    rw [upds_cons, ← updL_hf]
    exact hf_cons (updL h W) id ge

abbrev Log := List (List Nat × List Nat)
def ids (T : TL) : List Nat := T.map (·.1)

/-- An operation by the rules, or by what is known of it. -/
def StepX (P : Program) (tt : TT) (fr : Fr) (h : Hp) (o : Oper) (K : AV → TL → TL → Prop) : Prop := StepK P tt fr h o.op K ∨ ∃ out T W, OpS P { o with guard := none } (evO fr) T W out ∧ InH h T ∧ Sub W T ∧ K out T W
theorem StepX_sound {tt : TT} (htt : TTOk P tt) {fr : Fr} {h : Hp} {o : Oper} {K : AV → TL → TL → Prop} (hK : StepX P tt fr h o K) : Sound P fr h o K := by
  rcases hK with hK | hK
  · exact StepK_sound htt rfl hK
  · exact hK

def RunL (P : Program) (tt : TT) (ops : Array Oper) : List Oper → Fr → Hp → Log → (Fr → Hp → Log → Prop) → Prop
  | [], fr, h, lg, K => K fr h lg
  | o :: r, fr, h, lg, K => match o.guard with
    | none => StepX P tt fr h o fun out T W => RunL P tt ops r (putO fr o.dst out) (updL h W) ((ids T, ids W) :: lg) K
    | some (j, want) => Opt (dstOf ops j) fun t => Opt (fr.get t) fun g => match g with
      | .pv (.bool b) => (b = want → StepX P tt ((t, .pv (.bool want)) :: fr) h o fun out T W => RunL P tt ops r (putO ((t, .pv (.bool want)) :: fr) o.dst out) (updL h W) ((ids T, ids W) :: lg) K) ∧
          (b = (!want) → RunL P tt ops r (putO ((t, .pv (.bool (!want))) :: fr) o.dst (.pv undef)) h (([], []) :: lg) K)
      | .pv (.tuple _) => RunL P tt ops r (putO fr o.dst (.pv undef)) h (([], []) :: lg) K
      | _ => False

structure At (P : Program) (ops : Array Oper) (fr : FF) (h : Hp) (i : Nat) (r : OR) : Prop where
  op : OpT P ops i r
  ins : ∀ t av, (t, av) ∈ r.ins → fr t = some av
  slots : ∀ t av, (t, av) ∈ r.ins → ∃ o, ops[i]? = some o ∧ ((∃ x ∈ o.op.operands, x = .tmp t) ∨ ∃ j w, o.guard = some (j, w) ∧ dstOf ops j = some t)
  ent : InH h r.T
  sub : Sub r.W r.T

inductive Tr (P : Program) (ops : Array Oper) : Nat → FF → Hp → List OR → FF → Hp → Prop
  | nil {i : Nat} {f : FF} {h : Hp} : Tr P ops i f h [] f h
  | cons {i : Nat} {f f' : FF} {h h' : Hp} {r : OR} {rs : List OR} (ha : At P ops f h i r) (ht : Tr P ops (i + 1) (fput f (dstOf ops i) r.out) (updL h r.W) rs f' h') : Tr P ops i f h (r :: rs) f' h'

theorem evO_rel {X : Cx} {w : World} {a : Act} {fr : Fr} {ins : List (Nat × AV)} (hin : ∀ t av, (t, av) ∈ ins → VR X w av (a.tmps.getD t undef)) {x : Operand} (hx : ∀ t, x = .tmp t → ∀ av, fr.get t = some av → (t, av) ∈ ins) :
    ∀ av, evO fr x = some av → VR X w av (a.eval x) := by
  intro av h
  cases x with
  | tmp t => exact hin t av (hx t rfl av h)
  | const v => cases h; exact .pv v
  | global g => cases h
  | func f => cases h; exact .fn [] [] rfl rfl (fun i y u h => by simp at h) (fun i y u h => by simp at h)

def insOf (fr : Fr) (o : Oper) : List (Nat × AV) := o.op.operands.toList.filterMap fun x => match x with
  | .tmp t => (fr.get t).map fun av => (t, av)
  | _ => none
theorem insOf_mem {fr : Fr} {o : Oper} {t : Nat} {av : AV} : (t, av) ∈ insOf fr o ↔ (∃ x ∈ o.op.operands, x = .tmp t) ∧ fr.get t = some av := by
  simp only [insOf, List.mem_filterMap, Array.mem_toList_iff]
  constructor
  · rintro ⟨x, hx, h⟩
    cases x with
    | tmp s =>
      simp only [Option.map_eq_some_iff] at h
      obtain ⟨b, h1, h2⟩ := h
      cases h2
      exact ⟨⟨_, hx, rfl⟩, h1⟩
    | _ => cases h
  · rintro ⟨⟨x, hx, rfl⟩, h⟩
    exact ⟨_, hx, by simp [h]⟩

theorem opt_plain {ops : Array Oper} {i : Nat} {o : Oper} (ho : ops[i]? = some o) (hg : o.guard = none) {fr : Fr} {T W : TL} {out : AV} (h : OpS P o (evO fr) T W out) : OpT P ops i ⟨insOf fr o, T, W, out⟩ := by
  intro X B hF a w Q K hS hin hT hK
  have hd : dstOf ops i = o.dst := by simp [dstOf, ho]
  rw [hd] at hK
  unfold wpOp
  rw [ho]
  simp only [Region.wanted, hg, if_true]
  refine .inl (h X B hF a w Q K hS (fun x hx => evO_rel hin (fun t ht av hav => insOf_mem.2 ⟨⟨x, hx, ht⟩, hav⟩)) hT hK)

theorem yields_bool {ops : Array Oper} {X : Cx} {w : World} {a : Act} {j t : Nat} {b : Bool} (hj : dstOf ops j = some t) (hv : VR X w (.pv (.bool b)) (a.tmps.getD t undef)) : yielded ops a.tmps j = some b := by
  have h1 := hv.pv_inv
  simp only [dstOf] at hj
  rw [Array.getD_eq_getD_getElem?] at h1
  unfold yielded
  rw [hj]
  cases h2 : a.tmps[t]? with
  | none => rw [h2] at h1; simp [undef] at h1
  | some v => rw [h2] at h1; simp at h1; simp [h2, h1]
theorem yields_none {ops : Array Oper} {X : Cx} {w : World} {a : Act} {j t : Nat} {u : Array Value} (hj : dstOf ops j = some t) (hv : VR X w (.pv (.tuple u)) (a.tmps.getD t undef)) : yielded ops a.tmps j = none := by
  have h1 := hv.pv_inv
  simp only [dstOf] at hj
  rw [Array.getD_eq_getD_getElem?] at h1
  unfold yielded
  rw [hj]
  cases h2 : a.tmps[t]? with
  | none => simp [h2]
  | some v => rw [h2] at h1; simp at h1; simp [h2, h1]

theorem opt_guard {ops : Array Oper} {i j t : Nat} {want : Bool} {o : Oper} (ho : ops[i]? = some o) (hg : o.guard = some (j, want)) (hj : dstOf ops j = some t) {fr : Fr} {T W : TL} {out : AV} (h : OpS P o (evO fr) T W out) : OpT P ops i ⟨(t, .pv (.bool want)) :: insOf fr o, T, W, out⟩ := by
  intro X B hF a w Q K hS hin hT hK
  have hd : dstOf ops i = o.dst := by simp [dstOf, ho]
  rw [hd] at hK
  unfold wpOp
  rw [ho]
  have hy := yields_bool hj (hin t _ (List.mem_cons_self ..))
  simp only [Region.wanted, hg, hy, beq_self_eq_true, if_true]
  refine .inl (h X B hF a w Q K hS (fun x hx => evO_rel (fun s av hm => hin s av (List.mem_cons_of_mem _ hm)) (fun t ht av hav => insOf_mem.2 ⟨⟨x, hx, ht⟩, hav⟩)) hT hK)

theorem opt_skip {ops : Array Oper} {i j t : Nat} {want : Bool} {o : Oper} (ho : ops[i]? = some o) (hg : o.guard = some (j, want)) (hj : dstOf ops j = some t) {g : AV} (h : g = .pv (.bool (!want)) ∨ ∃ u, g = .pv (.tuple u)) : OpT P ops i ⟨[(t, g)], [], [], .pv undef⟩ := by
  intro X B hF a w Q K hS hin hT hK
  have hd : dstOf ops i = o.dst := by simp [dstOf, ho]
  rw [hd] at hK
  unfold wpOp
  rw [ho]
  have hin0 := hin t _ (List.mem_singleton.2 rfl)
  have hw : Region.wanted o (yielded ops a.tmps) = false := by
    rcases h with rfl | ⟨u, rfl⟩
    · have hy := yields_bool hj hin0
      simp only [Region.wanted, hg, hy]
      cases want <;> rfl
    · have hy := yields_none hj hin0
      simp only [Region.wanted, hg, hy]
      rfl
  simp only [hw, Bool.false_eq_true, if_false]
  exact hK X w undef (Cx.le.refl X) hS (fun _ _ => rfl) (.pv undef)

theorem get_same {fr : Fr} {t : Nat} {g : AV} (h : fr.get t = some g) : Fr.get ((t, g) :: fr) = fr.get := by
  funext k
  simp only [Fr.get_cons]
  split
  · rename_i e; rw [← e, h]
  · rfl

theorem runL_sound {tt : TT} (htt : TTOk P tt) {ops : Array Oper} {K : Fr → Hp → Log → Prop} : ∀ (l : List Oper) (i : Nat) (fr : Fr) (h : Hp) (lg : Log), ops.toList.drop i = l → RunL P tt ops l fr h lg K →
    ∃ rs fr' h', Tr P ops i fr.get h rs (Fr.get fr') h' ∧ rs.length = l.length ∧ K fr' h' ((rs.map fun r => (ids r.T, ids r.W)).reverse ++ lg)
  | [], i, fr, h, lg, hl, hr => ⟨[], fr, h, .nil, rfl, by simpa [RunL] using hr⟩
  | o :: r, i, fr, h, lg, hl, hr => by
    have ho : ops[i]? = some o := by
      have : ops.toList[i]? = some o := by
        have h1 := congrArg (fun l => l[0]?) hl
        simpa [List.getElem?_drop] using h1
      simpa using this
    have hd : dstOf ops i = o.dst := by simp [dstOf, ho]
    have hl' : ops.toList.drop (i + 1) = r := by
      have := congrArg (fun l => l.drop 1) hl
      simpa [List.drop_drop] using this
    unfold RunL at hr
    split at hr
    · rename_i hg
      obtain ⟨out, T, W, h1, h2, h3, h4⟩ := StepX_sound htt hr
      obtain ⟨rs, fr', h', k1, k2, k3⟩ := runL_sound htt r (i + 1) _ _ _ hl' h4
      refine ⟨⟨insOf fr o, T, W, out⟩ :: rs, fr', h', .cons ⟨opt_plain ho hg h1, fun t av hm => (insOf_mem.1 hm).2, fun t av hm => ⟨o, ho, .inl (insOf_mem.1 hm).1⟩, h2, h3⟩ ?_, by simp [k2], by simpa using k3⟩
      rw [hd, ← putO_get]
      exact k1
    · rename_i j want hg
      obtain ⟨t, hj, hr⟩ := hr.ex
      obtain ⟨g, hgt, hr⟩ := hr.ex
      have sl : ∀ s av, (s, av) = (t, g) → ∃ o, ops[i]? = some o ∧ ((∃ x ∈ o.op.operands, x = .tmp s) ∨ ∃ j w, o.guard = some (j, w) ∧ dstOf ops j = some s) := fun s av e => by
        cases e; exact ⟨o, ho, .inr ⟨j, want, hg, hj⟩⟩
      split at hr
      · rename_i b
        by_cases hb : b = want
        · subst hb
          have hs := hr.1 rfl
          obtain ⟨out, T, W, h1, h2, h3, h4⟩ := StepX_sound htt hs
          obtain ⟨rs, fr', h', k1, k2, k3⟩ := runL_sound htt r (i + 1) _ _ _ hl' h4
          have hsame := get_same hgt
          refine ⟨⟨(t, .pv (.bool b)) :: insOf ((t, .pv (.bool b)) :: fr) o, T, W, out⟩ :: rs, fr', h', .cons ⟨opt_guard ho hg hj h1, fun s av hm => ?_, fun s av hm => ?_, h2, h3⟩ ?_, by simp [k2], by simpa using k3⟩
          · rw [List.mem_cons] at hm
            rcases hm with e | hm
            · cases e; exact hgt
            · have := (insOf_mem.1 hm).2
              rwa [hsame] at this
          · rw [List.mem_cons] at hm
            rcases hm with e | hm
            · exact sl s av e
            · exact ⟨o, ho, .inl (insOf_mem.1 hm).1⟩
          · rw [hd]
            rw [putO_get, hsame] at k1
            exact k1
        · have hb' : b = !want := by cases b <;> cases want <;> simp_all
          subst hb'
          have hs := hr.2 rfl
          obtain ⟨rs, fr', h', k1, k2, k3⟩ := runL_sound htt r (i + 1) _ _ _ hl' hs
          refine ⟨⟨[(t, .pv (.bool (!want)))], [], [], .pv undef⟩ :: rs, fr', h', .cons ⟨opt_skip ho hg hj (.inl rfl), fun s av hm => by rw [List.mem_singleton] at hm; cases hm; exact hgt, fun s av hm => by rw [List.mem_singleton] at hm; exact sl s av hm, .nil, .nil⟩ ?_, by simp [k2], by simpa [ids] using k3⟩
          rw [hd]
          rw [putO_get, get_same hgt] at k1
          exact k1
      · rename_i u
        obtain ⟨rs, fr', h', k1, k2, k3⟩ := runL_sound htt r (i + 1) _ _ _ hl' hr
        refine ⟨⟨[(t, .pv (.tuple u))], [], [], .pv undef⟩ :: rs, fr', h', .cons ⟨opt_skip ho hg hj (.inr ⟨u, rfl⟩), fun s av hm => by rw [List.mem_singleton] at hm; cases hm; exact hgt, fun s av hm => by rw [List.mem_singleton] at hm; exact sl s av hm, .nil, .nil⟩ ?_, by simp [k2], by simpa [ids] using k3⟩
        rw [hd]
        rw [putO_get] at k1
        exact k1
      · exact hr.elim

/-- In the text's order. -/
theorem tr_text {ops : Array Oper} {n : Nat} (hd : ∀ i k, dstOf ops i = some k → k < n) {B : Base} {Q : Exit → Act → World → Prop} {i : Nat} {f f' : FF} {h h' : Hp} {rs : List OR} (ht : Tr P ops i f h rs f' h') :
    ∀ {X : Cx} {a : Act} {w : World}, SRh X B (hf h) w → FrOK X w n f a →
    (∀ X' w' a', X.le X' → SRh X' B (hf h') w' → FrOK X' w' n f' a' → (∀ b, X.ok2 b → w'.heap[b]? = w.heap[b]?) → a'.defers = a.defers → Q .normal a' w') → wpOps P ops Q (List.range' i rs.length) a w := by
  induction ht with
  | nil =>
    intro X a w hS hF hQ
    exact hQ X w a (Cx.le.refl X) hS hF (fun _ _ => rfl) rfl
  | @cons i f f' h h' r rs ha ht ih =>
    intro X a w hS hF hQ
    rw [List.length_cons, List.range'_succ, wpOps_cons]
    refine ha.op X B (hf h) a w Q _ hS (fun t av hm => ?_) (fun id ge hm => ha.ent _ hm) (fun X' w' v hX hS' hok hv => ?_)
    · obtain ⟨v, h1, h2⟩ := hF.slot t av (ha.ins t av hm)
      rw [Array.getD_eq_getD_getElem?, h1]
      exact h2
    · rw [← updL_hf] at hS'
      refine ih hS' ((hF.mono hX hS.ok12 hok).put _ hv (fun k hk => hd i k hk)) (fun X2 w2 a2 hX2 hS2 hF2 hok2 hd2 => hQ X2 w2 a2 (hX.trans hX2) hS2 hF2 (fun b hb => (hok2 b (hX.ok2 b hb)).trans (hok b hb)) (hd2.trans ?_))
      cases dstOf ops i <;> rfl
end Go.Proofs.Ytcleiaibcfocdaa.Am
