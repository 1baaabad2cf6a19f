/- The abstract machine, part 21: functions that are handed entries of the heap of ids. -/
import Derived.Test.YtcleiaibcfocdaaAm20
set_option linter.unusedVariables false
set_option linter.unusedSimpArgs false
namespace Go.Proofs.Ytcleiaibcfocdaa.Am
open Go Go.RowKit
variable {P : Program}

/-- A function that is handed the entries I0 and leaves U0 of them (the others as they were); kp: the ids whose generation stays. -/
def MethT (P : Program) (f : FuncId) (kp : List Nat) (A0 : List AV) (I0 : Hp) (O0 : AV) (U0 : Hp) : Prop :=
  (∃ fn c, P.funcs[f]? = some fn ∧ (fn.name == "runtime.NumGoroutine") = false ∧ fn.body = some c) ∧
  ∀ (X : Cx) (B : Base) (w : World) (vs : List Value) (γ : Gn), SRh X B (hf (I0.map (insH idf γ))) w → vs.length = A0.length → (∀ (i : Nat) (a : AV) (v : Value), (A0.map (inT idf γ))[i]? = some a → vs[i]? = some v → VR X w a v) →
    Calls P f vs.toArray w fun e w' => ∃ v, e = .returned v ∧ ∃ γ' : Gn, (∀ i ∈ kp, γ' i = γ i) ∧ ∃ X', X.le X' ∧ SRh X' B (hf (U0.map (insH idf γ') ++ (restH U0 I0).map (insH idf γ))) w' ∧ (∀ b, X.ok2 b → w'.heap[b]? = w.heap[b]?) ∧ VR X' w' (inT idf γ' O0) v

inductive BndH (m : Nat) : Hp → Prop
  | nil : BndH m []
  | dead {i g : Nat} {r : Hp} (t : BndH m r) : BndH m ((i, (g, .dead)) :: r)
  | box {i g ty : Nat} {cs : List AV} {r : Hp} (h : (cs.all (bndC m)) = true) (t : BndH m r) : BndH m ((i, (g, .box ty cs)) :: r)
  | row {i g ty sz : Nat} {xs : List (List AV)} {r : Hp} (h : FlatR xs) (t : BndH m r) : BndH m ((i, (g, .row ty sz xs)) :: r)
  | map {i g : Nat} {es : List (Value × AV)} {r : Hp} (h : ∀ p ∈ es, p.2.flatA = true) (t : BndH m r) : BndH m ((i, (g, .map es)) :: r)
  | chn {i g ty lty : Nat} {xs : List (List AV)} {r : Hp} (t : BndH m r) : BndH m ((i, (g, .chn ty lty xs)) :: r)
theorem BndH.all {m : Nat} {H : Hp} (k : BndH m H) : ∀ p ∈ H, BndE m p.2.2 := by
  have cons : ∀ {q : Nat × (Nat × Ent)} {r : Hp}, BndE m q.2.2 → (∀ p ∈ r, BndE m p.2.2) → ∀ p ∈ q :: r, BndE m p.2.2 := fun h1 h2 p hp => by
    rcases List.mem_cons.1 hp with rfl | hp
    · exact h1
    · exact h2 p hp
  induction k with
  | nil => intro p h; cases h
  | dead _ ih => exact cons trivial ih
  | box h0 _ ih => exact cons h0 ih
  | row h0 _ ih => exact cons h0 ih
  | map h0 _ ih => exact cons h0 ih
  | chn _ ih => exact cons trivial ih
theorem flatR_map {α : Type} {f : α → List AV} {l : List α} (h : ∀ a, ((f a).all AV.flat) = true) : FlatR (l.map f) := fun x hx c hc => by
  obtain ⟨a, _, rfl⟩ := List.mem_map.1 hx
  exact List.all_eq_true.1 (h a) c hc
theorem flatR_nil : FlatR [] := fun x hx => by cases hx

def memN : List Nat → Nat → Bool
  | [], _ => false
  | a :: l, k => Nat.beq a k || memN l k
theorem memN_iff {l : List Nat} {k : Nat} : memN l k = true ↔ k ∈ l := by
  induction l with
  | nil => simp [memN]
  | cons a l ih =>
    simp only [memN, Bool.or_eq_true, ih, List.mem_cons]
    constructor
    · rintro (h | h)
      · exact .inl (Nat.eq_of_beq_eq_true h).symm
      · exact .inr h
    · rintro (h | h)
      · subst h; exact .inl (Nat.beq_refl k)
      · exact .inr h
/-- The generations behind a call. -/
def nx (kp : List Nat) (c : Gn) : Gn := fun i => match memN kp i with
  | true => c i
  | false => c i + 1
def below : Nat → List Nat
  | 0 => []
  | n + 1 => n :: below n
theorem below_mem {n i : Nat} : i ∈ below n ↔ i < n := by
  induction n with
  | zero => simp [below]
  | succ n ih => simp only [below, List.mem_cons, ih]; omega
def mokB (m : Nat) (kp : List Nat) (A0 : List AV) (I0 : Hp) (O0 : AV) (U0 : Hp) : Bool :=
  (I0.all fun p => Nat.blt p.1 m) && ((below m).all fun i => hasN I0 i) && (U0.all fun p => Nat.blt p.1 m) && ((below m).all fun i => hasN U0 i || memN kp i) && A0.all (bndT m) && bndT m O0

/-- A contract. -/
structure Meth (P : Program) (f : FuncId) (m : Nat) (kp : List Nat) (A0 : List AV) (I0 : Hp) (O0 : AV) (U0 : Hp) : Prop where
  run : MethT P f kp A0 I0 O0 U0
  ok : mokB m kp A0 I0 O0 U0 = true
  ib : BndH m I0
  ub : BndH m U0

theorem meth_call {f : FuncId} {m : Nat} {kp : List Nat} {A0 : List AV} {I0 U0 : Hp} {O0 : AV} (hM : Meth P f m kp A0 I0 O0 U0) (L : List Nat) (c : Gn) (hn : L.Nodup) (hL : L.length = m) :
    CallA P f (A0.map (inT (gl L) c)) (I0.map (insH (gl L) c)) (U0.map (insH (gl L) (nx kp c))) (inT (gl L) (nx kp c) O0) := by
  have hok := hM.ok
  simp only [mokB, Bool.and_eq_true] at hok
  obtain ⟨⟨⟨⟨⟨o1, o2⟩, o3⟩, o4⟩, o5⟩, o6⟩ := hok
  have hi1 : ∀ p ∈ I0, p.1 < m := fun p hp => blt_lt (List.all_eq_true.1 o1 p hp)
  have hi2 : ∀ i, i < m → ∃ ge, wfind I0 i = some ge := fun i hi => by
    have := List.all_eq_true.1 o2 i (below_mem.2 hi)
    rw [hasN_iff] at this
    exact Option.isSome_iff_exists.1 this
  have hu1 : ∀ p ∈ U0, p.1 < m := fun p hp => blt_lt (List.all_eq_true.1 o3 p hp)
  have hkp : ∀ i, i < m → hasN U0 i = false → i ∈ kp := fun i hi h => by
    have := List.all_eq_true.1 o4 i (below_mem.2 hi)
    rw [h, Bool.false_or] at this
    exact memN_iff.1 this
  refine ⟨hM.run.1, fun X B hF w vs hS hl hr hT => ?_⟩
  obtain ⟨F, hS⟩ := hS
  let ρ := gl L
  have hinj : ∀ i k, i < m → k < m → ρ i = ρ k → i = k := fun i k hi hk e => gl_inj hn (hL ▸ hi) (hL ▸ hk) e
  have hcal : ∀ i ge, wfind I0 i = some ge → hF (ρ i) = some (c i, inE ρ c ge.2) := fun i ge h => hT _ _ (List.mem_map.2 ⟨(i, ge), wfind_in h, rfl⟩)
  have hlt : ∀ {i ge}, wfind I0 i = some ge → i < m := fun h => hi1 _ (wfind_in h)
  -- the callee's context
  let Xc : Cx := ⟨X.ok1, X.ok2, fun i g => if i < m then X.bx (ρ i) g else none, fun i g => if i < m then X.rw (ρ i) g else none⟩
  let Fc : Nat → List Nat := fun i => if i < m then F (ρ i) else []
  let Bc : Base := ⟨w, fun b => ∃ i, i < m ∧ b ∈ F (ρ i), X.ok1, X.ok2⟩
  have S : Sim m ρ c idf c X Xc := ⟨fun _ h => h, fun _ h => h, fun i hi => by simp [Xc, hi, idf], fun i hi => by simp [Xc, hi, idf]⟩
  have wI : ∀ {H : Hp} (c : Gn) (i : Nat) (ge : Nat × Ent), (∀ p ∈ H, p.1 < m) → wfind (H.map (insH idf c)) i = some ge → ∃ ge0, wfind H i = some ge0 ∧ ge = (c i, inE idf c ge0.2) ∧ i < m := fun {H} c i ge hH h => by
    by_cases him : i < m
    · have := wfind_ins (ρ := idf) (c := c) (m := m) (fun _ _ _ _ e => e) hH i him
      rw [show wfind (H.map (insH idf c)) (idf i) = some ge from h] at this
      cases hw : wfind H i with
      | none => rw [hw] at this; cases this
      | some ge0 => rw [hw] at this; simp only [Option.map_some, Option.some.injEq] at this; exact ⟨ge0, rfl, this, him⟩
    · rw [wfind_ins_none (m := m) hH i (fun k hk e => him (by simp only [idf] at e; omega))] at h
      cases h
  have hSc : SRf Xc Bc (hf (I0.map (insH idf c))) Fc w := by
    refine ⟨?_, ?_, ?_, ?_, hS.ok12, fun b hb => .inl hb, fun b hb => .inl hb, ?_, ?_, rfl, rfl, rfl, Nat.le_refl _, fun _ _ _ => rfl⟩
    · intro i g e he
      obtain ⟨ge0, h1, h2, h3⟩ := wI c i _ hi1 he
      cases h2
      have := hS.ent _ _ _ (hcal i _ h1)
      simp only [Fc, h3, if_true]
      exact this.tr S hS.ok12 h3 (hM.ib.all _ (wfind_in h1))
    · intro i ge b he hb
      obtain ⟨ge0, h1, h2, h3⟩ := wI c i _ hi1 he
      simp only [Fc, h3, if_true] at hb
      exact hS.blk _ _ b (hcal i _ h1) hb
    · intro i k ge ge' b he he' hb hb'
      obtain ⟨ge0, h1, h2, h3⟩ := wI c i _ hi1 he
      obtain ⟨ge1, k1, k2, k3⟩ := wI c k _ hi1 he'
      simp only [Fc, h3, k3, if_true] at hb hb'
      exact hinj i k h3 k3 (hS.sep _ _ _ _ b (hcal i _ h1) (hcal k _ k1) hb hb')
    · refine fun b hb => ⟨(hS.ok2 b hb).1, fun i ge he hm => ?_⟩
      obtain ⟨ge0, h1, h2, h3⟩ := wI c i _ hi1 he
      simp only [Fc, h3, if_true] at hm
      exact (hS.ok2 b hb).2 _ _ (hcal i _ h1) hm
    · intro i ge b he hb
      obtain ⟨ge0, h1, h2, h3⟩ := wI c i _ hi1 he
      simp only [Fc, h3, if_true] at hb
      exact .inl ⟨i, h3, hb⟩
    · intro i g hg
      by_cases hm : i < m
      · obtain ⟨ge, h1⟩ := hi2 i hm
        have hlt' : c i < g := hg (c i) (inE idf c ge.2) (by
          have := wfind_ins (ρ := idf) (c := c) (m := m) (fun _ _ _ _ e => e) hi1 i hm
          rw [h1] at this; exact this)
        have h2 := hS.hist (ρ i) g (fun g' e h => by
          rw [hcal i _ h1] at h
          cases h
          exact hlt')
        simp only [Xc, hm, if_true]
        exact h2
      · simp [Xc, hm]
  have hrc : ∀ (i : Nat) (a : AV) (v : Value), (A0.map (inT idf c))[i]? = some a → vs[i]? = some v → VR Xc w a v :=
    map_tr (R := VR X w) (R' := VR Xc w) (f := inT ρ c) (fun a v ha h => inT_tr S hS.ok12 (List.all_eq_true.1 o5 a ha) h) hr
  refine (hM.run.2 Xc Bc w vs c ⟨Fc, hSc⟩ (by simpa using hl) hrc).mono fun e w' hh => ?_
  obtain ⟨v, rfl, γ', hγ, Xc', g1, ⟨Fc', g2⟩, g3, g4⟩ := hh
  refine ⟨v, rfl, ?_⟩
  classical
  -- the caller's context behind the call
  let t := nx kp c
  have tk : ∀ i, i ∈ kp → t i = c i := fun i hi => by simp only [t, nx, memN_iff.2 hi]
  have tn : ∀ i, i ∉ kp → t i = c i + 1 := fun i hi => by
    have : memN kp i = false := by
      cases h : memN kp i
      · rfl
      · exact absurd (memN_iff.1 h) hi
    simp only [t, nx, this]
  have hfut : ∀ i g, i < m → c i < g → X.bx (ρ i) g = none ∧ X.rw (ρ i) g = none := fun i g hi hg => by
    obtain ⟨ge, h1⟩ := hi2 i hi
    exact hS.hist (ρ i) g (fun g' e h => by rw [hcal i _ h1] at h; cases h; exact hg)
  let inv : Nat → Option Nat := fun j => (List.range m).find? fun i => ρ i == j
  have inv_rho : ∀ i, i < m → inv (ρ i) = some i := fun i him => by
    cases hv : inv (ρ i) with
    | none =>
      have := List.find?_eq_none.1 hv i (List.mem_range.2 him)
      simp at this
    | some k =>
      have h1 := List.find?_some hv
      have h2 := List.mem_of_find?_eq_some hv
      rw [List.mem_range] at h2
      rw [hinj k i h2 him (by simpa using h1)]
  have inv_some : ∀ j i, inv j = some i → i < m ∧ ρ i = j := fun j i hv => by
    have h1 := List.find?_some hv
    have h2 := List.mem_of_find?_eq_some hv
    rw [List.mem_range] at h2
    exact ⟨h2, by simpa using h1⟩
  let X' : Cx := ⟨Xc'.ok1, Xc'.ok2, fun j g => match inv j with
    | some i => if g = t i then Xc'.bx i (γ' i) else if g = c i then Xc'.bx i (c i) else X.bx j g
    | none => X.bx j g, fun j g => match inv j with
    | some i => if g = t i then Xc'.rw i (γ' i) else if g = c i then Xc'.rw i (c i) else X.rw j g
    | none => X.rw j g⟩
  have hX : X.le X' := by
    refine ⟨g1.ok1, g1.ok2, fun j g b h => ?_, fun j g b h => ?_⟩
    · show (match inv j with
        | some i => if g = t i then Xc'.bx i (γ' i) else if g = c i then Xc'.bx i (c i) else X.bx j g
        | none => X.bx j g) = some b
      cases hv : inv j with
      | none => exact h
      | some i =>
        obtain ⟨him, rfl⟩ := inv_some j i hv
        simp only
        by_cases hk : i ∈ kp
        · by_cases e : g = t i
          · rw [if_pos e, hγ i hk]
            refine g1.bx i _ b ?_
            simp only [Xc, him, if_true]
            rw [← tk i hk, ← e]; exact h
          · rw [if_neg e]
            by_cases e2 : g = c i
            · rw [if_pos e2]
              refine g1.bx i _ b ?_
              simp only [Xc, him, if_true]
              rw [← e2]; exact h
            · rw [if_neg e2]; exact h
        · by_cases e : g = t i
          · rw [(hfut i g him (by rw [e, tn i hk]; omega)).1] at h; cases h
          · rw [if_neg e]
            by_cases e2 : g = c i
            · rw [if_pos e2]
              refine g1.bx i _ b ?_
              simp only [Xc, him, if_true]
              rw [← e2]; exact h
            · rw [if_neg e2]; exact h
    · show (match inv j with
        | some i => if g = t i then Xc'.rw i (γ' i) else if g = c i then Xc'.rw i (c i) else X.rw j g
        | none => X.rw j g) = some b
      cases hv : inv j with
      | none => exact h
      | some i =>
        obtain ⟨him, rfl⟩ := inv_some j i hv
        simp only
        by_cases hk : i ∈ kp
        · by_cases e : g = t i
          · rw [if_pos e, hγ i hk]
            refine g1.rw i _ b ?_
            simp only [Xc, him, if_true]
            rw [← tk i hk, ← e]; exact h
          · rw [if_neg e]
            by_cases e2 : g = c i
            · rw [if_pos e2]
              refine g1.rw i _ b ?_
              simp only [Xc, him, if_true]
              rw [← e2]; exact h
            · rw [if_neg e2]; exact h
        · by_cases e : g = t i
          · rw [(hfut i g him (by rw [e, tn i hk]; omega)).2] at h; cases h
          · rw [if_neg e]
            by_cases e2 : g = c i
            · rw [if_pos e2]
              refine g1.rw i _ b ?_
              simp only [Xc, him, if_true]
              rw [← e2]; exact h
            · rw [if_neg e2]; exact h
  have S1 : Sim m idf γ' ρ t Xc' X' := ⟨fun _ h => h, fun _ h => h, fun i hi => by simp [X', inv_rho i hi, idf], fun i hi => by simp [X', inv_rho i hi, idf]⟩
  have S2 : Sim m idf c ρ c Xc' X' := by
    refine ⟨fun _ h => h, fun _ h => h, fun i hi => ?_, fun i hi => ?_⟩
    · simp only [X', inv_rho i hi, idf]
      by_cases e : c i = t i
      · rw [if_pos e]
        by_cases hk : i ∈ kp
        · rw [hγ i hk]
        · rw [tn i hk] at e; omega
      · rw [if_neg e]; simp
    · simp only [X', inv_rho i hi, idf]
      by_cases e : c i = t i
      · rw [if_pos e]
        by_cases hk : i ∈ kp
        · rw [hγ i hk]
        · rw [tn i hk] at e; omega
      · rw [if_neg e]; simp
  let F' : Nat → List Nat := fun j => match inv j with
    | some i => Fc' i
    | none => F j
  let Hc : Hp := U0.map (insH idf γ') ++ (restH U0 I0).map (insH idf c)
  have hr1 : ∀ p ∈ restH U0 I0, p.1 < m := fun p hp => hi1 p (restH_mem hp)
  -- what stands where
  have upU : ∀ i ge0, i < m → wfind U0 i = some ge0 → upds hF (U0.map (insH ρ t)) (ρ i) = some (t i, inE ρ t ge0.2) ∧ wfind Hc i = some (γ' i, inE idf γ' ge0.2) := fun i ge0 hi h => by
    have e1 := wfind_ins (ρ := ρ) (c := t) hinj hu1 i hi
    have e2 := wfind_ins (ρ := idf) (c := γ') (m := m) (fun _ _ _ _ e => e) hu1 i hi
    rw [h] at e1 e2
    refine ⟨by simp only [upds, e1, Option.map_some], ?_⟩
    rw [wfind_append, show wfind (U0.map (insH idf γ')) i = _ from e2]; rfl
  have upI : ∀ i ge0, i < m → wfind U0 i = none → wfind I0 i = some ge0 → upds hF (U0.map (insH ρ t)) (ρ i) = some (c i, inE ρ c ge0.2) ∧ wfind Hc i = some (c i, inE idf c ge0.2) := fun i ge0 hi h hI => by
    have e1 := wfind_ins (ρ := ρ) (c := t) hinj hu1 i hi
    have e2 := wfind_ins (ρ := idf) (c := γ') (m := m) (fun _ _ _ _ e => e) hu1 i hi
    have e3 := wfind_ins (ρ := idf) (c := c) (m := m) (fun _ _ _ _ e => e) hr1 i hi
    have hb : hasN U0 i = false := by rw [hasN_iff, h]; rfl
    rw [restH_find, hb] at e3
    simp only [Bool.false_eq_true, if_false, hI, Option.map_some] at e3
    rw [h] at e1 e2
    refine ⟨by simp only [upds, e1, Option.map_none]; exact hcal i _ hI, ?_⟩
    rw [wfind_append, show wfind (U0.map (insH idf γ')) i = _ from e2]; exact e3
  have un : ∀ j, inv j = none → upds hF (U0.map (insH ρ t)) j = hF j := fun j hj => by
    have e' : wfind (U0.map (insH ρ t)) j = none := wfind_ins_none (m := m) hu1 j (fun i him e => by rw [← e, inv_rho i him] at hj; cases hj)
    simp only [upds, e']
  have fin : ∀ {j ge}, upds hF (U0.map (insH ρ t)) j = some ge → (inv j = none ∧ hF j = some ge ∧ F' j = F j) ∨
      ∃ i ge1, inv j = some i ∧ i < m ∧ ρ i = j ∧ wfind Hc i = some ge1 ∧ F' j = Fc' i ∧ EntOK X' w' j ge.1 (Fc' i) ge.2 := by
    intro j ge he
    cases hv : inv j with
    | none => rw [un j hv] at he; exact .inl ⟨rfl, he, by simp [F', hv]⟩
    | some i =>
      obtain ⟨h1, rfl⟩ := inv_some j i hv
      cases hu : wfind U0 i with
      | some ge0 =>
        obtain ⟨q1, q2⟩ := upU i ge0 h1 hu
        rw [he] at q1; cases q1
        exact .inr ⟨i, _, rfl, h1, rfl, q2, by simp [F', hv], (g2.ent i _ _ q2).tr S1 g2.ok12 h1 (hM.ub.all _ (wfind_in hu))⟩
      | none =>
        obtain ⟨ge0, hI⟩ := hi2 i h1
        obtain ⟨q1, q2⟩ := upI i ge0 h1 hu hI
        rw [he] at q1; cases q1
        exact .inr ⟨i, _, rfl, h1, rfl, q2, by simp [F', hv], (g2.ent i _ _ q2).tr S2 g2.ok12 h1 (hM.ib.all _ (wfind_in hI))⟩
  have old : ∀ j ge b, inv j = none → hF j = some ge → b ∈ F j → b < w.heap.size ∧ ¬ ∃ i, i < m ∧ b ∈ F (ρ i) := fun j ge b hj he hb => by
    refine ⟨hS.blk j ge b he hb, fun ⟨i, him, hbi⟩ => ?_⟩
    obtain ⟨ge', h1⟩ := hi2 i him
    have := hS.sep j (ρ i) ge _ b he (hcal i _ h1) hb hbi
    rw [this, inv_rho i him] at hj
    cases hj
  have newc : ∀ i ge b, wfind Hc i = some ge → b ∈ Fc' i → (∃ k, k < m ∧ b ∈ F (ρ k)) ∨ w.heap.size ≤ b := fun i ge b he hb => g2.own i ge b he hb
  have S0B : ∀ b, (∃ i, i < m ∧ b ∈ F (ρ i)) → B.S0 b ∨ B.w0.heap.size ≤ b := fun b ⟨i, him, hb⟩ => by
    obtain ⟨ge, h1⟩ := hi2 i him
    exact hS.own _ _ b (hcal i _ h1) hb
  have hsz := g2.size
  refine ⟨X', hX, ⟨F', ?_, ?_, ?_, ?_, g2.ok12, ?_, ?_, ?_, ?_, g2.os.trans hS.os, g2.tape.trans hS.tape, g2.output.trans hS.output, Nat.le_trans hS.size g2.size, ?_⟩, g3, inT_tr S1 g2.ok12 o6 g4⟩
  · intro j g e he
    rcases fin he with ⟨h1, h2, h3⟩ | ⟨i, ge1, h1, h2, h3, h4, h5, h6⟩
    · rw [h3]
      refine (hS.ent j g e h2).mono hX hS.ok12 g3 (fun b hb => ?_)
      obtain ⟨q1, q2⟩ := old j _ b h1 h2 hb
      exact g2.keep b q1 q2
    · rw [h5]; exact h6
  · intro j ge b he hb
    rcases fin he with ⟨h1, h2, h3⟩ | ⟨i, ge1, h1, h2, h3, h4, h5, h6⟩
    · rw [h3] at hb
      exact Nat.lt_of_lt_of_le (hS.blk j ge b h2 hb) hsz
    · rw [h5] at hb
      exact g2.blk i _ b h4 hb
  · intro j k ge ge' b he he' hb hb'
    rcases fin he with ⟨h1, h2, h3⟩ | ⟨i, ge1, h1, h2, h3, h4, h5, h6⟩ <;> rcases fin he' with ⟨k1, k2, k3⟩ | ⟨i', ge2, k1, k2, k3, k4, k5, k6⟩
    · rw [h3] at hb
      rw [k3] at hb'
      exact hS.sep j k ge ge' b h2 k2 hb hb'
    · rw [h3] at hb
      rw [k5] at hb'
      obtain ⟨q1, q2⟩ := old j _ b h1 h2 hb
      rcases newc i' _ b k4 hb' with h | h
      · exact absurd h q2
      · exact absurd q1 (Nat.not_lt.2 h)
    · rw [h5] at hb
      rw [k3] at hb'
      obtain ⟨q1, q2⟩ := old k _ b k1 k2 hb'
      rcases newc i _ b h4 hb with h | h
      · exact absurd h q2
      · exact absurd q1 (Nat.not_lt.2 h)
    · rw [h5] at hb
      rw [k5] at hb'
      have := g2.sep i i' _ _ b h4 k4 hb hb'
      rw [← h3, ← k3, this]
  · refine fun b hb => ⟨(g2.ok2 b hb).1, fun j ge he hm => ?_⟩
    rcases fin he with ⟨h1, h2, h3⟩ | ⟨i, ge1, h1, h2, h3, h4, h5, h6⟩
    · rw [h3] at hm
      obtain ⟨q1, q2⟩ := old j _ b h1 h2 hm
      rcases g2.in2 b hb with h | h | h
      · exact (hS.ok2 b h).2 j _ h2 hm
      · exact q2 h
      · exact absurd q1 (Nat.not_lt.2 h)
    · rw [h5] at hm
      exact (g2.ok2 b hb).2 i _ h4 hm
  · intro b hb
    rcases g2.in1 b hb with h | h | h
    · exact hS.in1 b h
    · exact .inr (S0B b h)
    · exact .inr (.inr (Nat.le_trans hS.size h))
  · intro b hb
    rcases g2.in2 b hb with h | h | h
    · exact hS.in2 b h
    · exact .inr (S0B b h)
    · exact .inr (.inr (Nat.le_trans hS.size h))
  · intro j ge b he hb
    rcases fin he with ⟨h1, h2, h3⟩ | ⟨i, ge1, h1, h2, h3, h4, h5, h6⟩
    · rw [h3] at hb
      exact hS.own j ge b h2 hb
    · rw [h5] at hb
      rcases newc i _ b h4 hb with h | h
      · exact S0B b h
      · exact .inr (Nat.le_trans hS.size h)
  · intro j g hg
    cases hv : inv j with
    | none =>
      have h1 := hS.hist j g (fun g' e h => hg g' e (by rw [un j hv]; exact h))
      refine ⟨?_, ?_⟩
      · simp only [X', hv, h1.1]
      · simp only [X', hv, h1.2]
    | some i =>
      obtain ⟨him, rfl⟩ := inv_some j i hv
      obtain ⟨ge0, hI⟩ := hi2 i him
      have hcg : c i < g ∧ g ≠ t i := by
        cases hu : wfind U0 i with
        | some ge1 =>
          have := hg _ _ (upU i ge1 him hu).1
          by_cases hk : i ∈ kp
          · rw [tk i hk] at this ⊢; omega
          · rw [tn i hk] at this ⊢; omega
        | none =>
          have := hg _ _ (upI i ge0 him hu hI).1
          have hk := hkp i him (by rw [hasN_iff, hu]; rfl)
          rw [tk i hk]; omega
      have := hfut i g him hcg.1
      refine ⟨?_, ?_⟩
      · simp only [X', hv]; rw [if_neg hcg.2, if_neg (by omega)]; exact this.1
      · simp only [X', hv]; rw [if_neg hcg.2, if_neg (by omega)]; exact this.2
  · intro b hb hs
    rw [← hS.keep b hb hs]
    refine g2.keep b (Nat.lt_of_lt_of_le hb hS.size) (fun h => ?_)
    rcases S0B b h with h | h
    · exact hs h
    · exact absurd hb (Nat.not_lt.2 h)
end Go.Proofs.Ytcleiaibcfocdaa.Am
