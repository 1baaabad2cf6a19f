/- The abstract machine, part 14: regions in any order; code. -/
import Derived.Test.YtcleiaibcfocdaaAm13
set_option linter.unusedVariables false
set_option linter.unusedSimpArgs false
namespace Go.Proofs.Ytcleiaibcfocdaa.Am
open Go Go.RowKit

variable {P : Program}

instance : Inhabited OR := ⟨⟨[], [], [], .any⟩⟩

def maskOf (acc : List Nat) (o : Oper) : Nat := o.after.toList.foldl (fun m e => if Region.binds .any e then m ||| ((1 <<< e.on) ||| acc.getD e.on 0) else m) 0
def masks : List Oper → List Nat → List Nat
  | [], acc => acc
  | o :: r, acc => masks r (acc ++ [maskOf acc o])

def slotsOf (ops : Array Oper) (o : Oper) : List Nat := (o.op.operands.toList.filterMap fun x => match x with
  | .tmp t => some t
  | _ => none) ++ (match o.guard with
  | some (j, _) => (dstOf ops j).toList
  | none => [])

def ordB (M : List Nat) (i j : Nat) : Bool := if i < j then (M.getD j 0).testBit i else (M.getD i 0).testBit j

def chk (ops : Array Oper) (lg : Log) : Bool :=
  let M := masks ops.toList []
  (ops.toList.zipIdx.all fun p => p.1.after.toList.all fun e => !Region.binds .any e || decide (e.on < p.2)) &&
  (ops.toList.zipIdx.all fun p => ops.toList.zipIdx.all fun q => p.2 == q.2 || ordB M p.2 q.2 ||
    ((match q.1.dst with
      | none => true
      | some t => !((slotsOf ops p.1).contains t || p.1.dst == some t)) &&
     ((lg.getD q.2 ([], [])).2.all fun id => !(lg.getD p.2 ([], [])).1.contains id)))

theorem maskOf_sound {ops : Array Oper} {acc : List Nat} {i : Nat} {o : Oper} (ho : ops[i]? = some o) (hacc : ∀ k j, (acc.getD k 0).testBit j = true → Reach ops j k) : ∀ j, (maskOf acc o).testBit j = true → Reach ops j i := by
  have key : ∀ (l : List Edge) (m : Nat), (∀ e ∈ l, e ∈ o.after) → (∀ j, m.testBit j = true → Reach ops j i) → ∀ j, (l.foldl (fun m e => if Region.binds .any e then m ||| ((1 <<< e.on) ||| acc.getD e.on 0) else m) m).testBit j = true → Reach ops j i := by
    intro l
    induction l with
    | nil => intro m _ hm j hj; exact hm j hj
    | cons e l ih =>
      intro m hl hm j hj
      rw [List.foldl_cons] at hj
      refine ih _ (fun e' he' => hl e' (List.mem_cons_of_mem _ he')) (fun k hk => ?_) j hj
      split at hk
      · rename_i hb
        rw [Nat.testBit_or, Nat.testBit_or, Bool.or_eq_true, Bool.or_eq_true] at hk
        have hedge : Reach ops e.on i := .edge ho (hl e (List.mem_cons_self ..)) hb
        rcases hk with hk | hk | hk
        · exact hm k hk
        · have : e.on = k := by
            rw [Nat.one_shiftLeft, Nat.testBit_two_pow] at hk
            simpa using hk
          rw [← this]; exact hedge
        · exact (hacc _ k hk).trans hedge
      · exact hm k hk
  exact key o.after.toList 0 (fun e he => by simpa using he) (fun j hj => by simp at hj)

theorem masks_sound {ops : Array Oper} : ∀ (l : List Oper) (acc : List Nat), ops.toList.drop acc.length = l → (∀ k j, (acc.getD k 0).testBit j = true → Reach ops j k) → ∀ k j, ((masks l acc).getD k 0).testBit j = true → Reach ops j k
  | [], acc, _, hacc => hacc
  | o :: r, acc, hl, hacc => by
    have ho : ops[acc.length]? = some o := by
      have : ops.toList[acc.length]? = some o := by
        have h1 := congrArg (fun l => l[0]?) hl
        simpa [List.getElem?_drop] using h1
      simpa using this
    refine masks_sound r (acc ++ [maskOf acc o]) ?_ (fun k j hk => ?_)
    · have := congrArg (fun l => l.drop 1) hl
      simpa [List.drop_drop] using this
    · rw [List.getD_eq_getElem?_getD, List.getElem?_append] at hk
      split at hk
      · exact hacc k j (by rw [List.getD_eq_getElem?_getD]; exact hk)
      · rename_i h1
        by_cases h2 : k = acc.length
        · subst h2
          simp at hk
          exact maskOf_sound ho hacc j hk
        · rw [List.getElem?_eq_none (by simp; omega)] at hk
          simp at hk

theorem FV_succ {ops : Array Oper} {rs : Nat → OR} {f0 : FF} {i : Nat} (hi : i < ops.size) : FV ops rs f0 (fun j => decide (j < i + 1)) = fput (FV ops rs f0 (fun j => decide (j < i))) (dstOf ops i) (rs i).out := by
  funext t
  by_cases ht : dstOf ops i = some t
  · rw [ht]
    simp only [fput, if_true]
    unfold FV
    rw [lastIdx_some (j := i) hi (by simp [wrT, ht]) (fun k hk hik => by simp [show ¬ k < i + 1 by omega])]
  · have hft : fput (FV ops rs f0 (fun j => decide (j < i))) (dstOf ops i) (rs i).out t = FV ops rs f0 (fun j => decide (j < i)) t := by
      cases hd : dstOf ops i with
      | none => rfl
      | some k =>
        simp only [fput]
        rw [if_neg (fun e => ht (by rw [hd, e]))]
    rw [hft]
    refine FV_congr (fun j hj hw => ?_)
    have : j ≠ i := by
      rintro rfl
      exact ht (by simpa [wrT] using hw)
    by_cases h : j < i
    · simp [h, show j < i + 1 by omega]
    · simp [h, show ¬ j < i + 1 by omega]
theorem HV_succ {ops : Array Oper} {rs : Nat → OR} {h0 : HF} {i : Nat} (hi : i < ops.size) : HV ops rs h0 (fun j => decide (j < i + 1)) = upds (HV ops rs h0 (fun j => decide (j < i))) (rs i).W := by
  funext id
  by_cases ht : wrI rs i id = true
  · have h1 : HV ops rs h0 (fun j => decide (j < i + 1)) id = wfind (rs i).W id := by
      unfold HV
      rw [lastIdx_some (j := i) hi (by simp [ht]) (fun k hk hik => by simp [show ¬ k < i + 1 by omega])]
    rw [h1]
    unfold upds
    cases hw : wfind (rs i).W id with
    | none => simp [wrI, hw] at ht
    | some ge => rfl
  · have h1 : wfind (rs i).W id = none := by
      cases hw : wfind (rs i).W id with
      | none => rfl
      | some ge => simp [wrI, hw] at ht
    simp only [upds, h1]
    refine HV_congr (fun j hj hw => ?_)
    have : j ≠ i := by
      rintro rfl
      exact ht hw
    by_cases h : j < i
    · simp [h, show j < i + 1 by omega]
    · simp [h, show ¬ j < i + 1 by omega]

theorem tr_states {ops : Array Oper} {L : List OR} {f0 : FF} {h0 : Hp} {i : Nat} {f f' : FF} {h h' : Hp} {tail : List OR} (ht : Tr P ops i f h tail f' h') : (∀ k, tail[k]? = L[i + k]?) → i + tail.length = ops.size → f = FV ops (fun j => L.getD j default) f0 (fun j => decide (j < i)) → hf h = HV ops (fun j => L.getD j default) (hf h0) (fun j => decide (j < i)) →
    (∀ k, i ≤ k → k < ops.size → ∃ fk hk, At P ops fk hk k (L.getD k default) ∧ fk = FV ops (fun j => L.getD j default) f0 (fun j => decide (j < k)) ∧ hf hk = HV ops (fun j => L.getD j default) (hf h0) (fun j => decide (j < k))) ∧
    f' = FV ops (fun j => L.getD j default) f0 (fun j => decide (j < ops.size)) ∧ hf h' = HV ops (fun j => L.getD j default) (hf h0) (fun j => decide (j < ops.size)) := by
  induction ht with
  | @nil i f h =>
    intro _ hs hf' hh'
    have hs' : i = ops.size := by simpa using hs
    subst hs'
    exact ⟨fun k h1 h2 => by omega, hf', hh'⟩
  | @cons i f f' h h' r rs ha ht ih =>
    intro hL hs hf' hh'
    have hi : i < ops.size := by simp at hs; omega
    have hr : L.getD i default = r := by
      have := hL 0
      simp at this
      rw [List.getD_eq_getElem?_getD, ← this]; rfl
    have e1 : fput f (dstOf ops i) r.out = FV ops (fun j => L.getD j default) f0 (fun j => decide (j < i + 1)) := by
      rw [FV_succ hi, ← hf', hr]
    have e2 : hf (updL h r.W) = HV ops (fun j => L.getD j default) (hf h0) (fun j => decide (j < i + 1)) := by
      rw [HV_succ hi, ← hh', hr, updL_hf]
    obtain ⟨k1, k2, k3⟩ := ih (fun k => by
      have := hL (k + 1)
      rw [List.getElem?_cons_succ] at this
      rw [this]; congr 1; omega) (by simp at hs; omega) e1 e2
    refine ⟨fun k h1 h2 => ?_, k2, k3⟩
    by_cases hk : k = i
    · subst hk
      exact ⟨f, h, by rw [hr]; exact ha, hf', hh'⟩
    · exact k1 k (by omega) h2

theorem chk_sound {ops : Array Oper} {L : List OR} {f f' : FF} {h h' : Hp} (ht : Tr P ops 0 f h L f' h') (hlen : L.length = ops.size) (hc : chk ops (L.map fun r => (ids r.T, ids r.W)) = true) :
    RegOK ops (fun j => L.getD j default) f (hf h) ∧ (∀ i, i < ops.size → OpT P ops i (L.getD i default)) ∧ f' = FV ops (fun j => L.getD j default) f (fun _ => true) ∧ hf h' = HV ops (fun j => L.getD j default) (hf h) (fun _ => true) := by
  have e0 : FV ops (fun j => L.getD j default) f (fun j => decide (j < 0)) = f := by
    funext t
    unfold FV
    rw [lastIdx_none (fun j _ => by simp)]
  have e1 : HV ops (fun j => L.getD j default) (hf h) (fun j => decide (j < 0)) = hf h := by
    funext t
    unfold HV
    rw [lastIdx_none (fun j _ => by simp)]
  obtain ⟨k1, k2, k3⟩ := tr_states (L := L) (f0 := f) (h0 := h) ht (fun k => by rw [Nat.zero_add]) (by rw [Nat.zero_add]; exact hlen) e0.symm e1.symm
  have all : ∀ i, i < ops.size → ∃ fk hk, At P ops fk hk i (L.getD i default) ∧ fk = FV ops (fun j => L.getD j default) f (fun j => decide (j < i)) ∧ hf hk = HV ops (fun j => L.getD j default) (hf h) (fun j => decide (j < i)) := fun i hi => k1 i (Nat.zero_le _) hi
  unfold chk at hc
  simp only [Bool.and_eq_true, List.all_eq_true] at hc
  obtain ⟨c1, c2⟩ := hc
  have mem : ∀ i o, ops[i]? = some o → (o, i) ∈ ops.toList.zipIdx := fun i o ho => by
    rw [List.mem_zipIdx_iff_getElem?]; simpa using ho
  have hord : ∀ i j, ordB (masks ops.toList []) i j = true → Ord ops i j := fun i j hb => by
    have ms := masks_sound (ops := ops) ops.toList [] (by simp) (fun k j hk => by simp at hk)
    unfold ordB at hb
    split at hb
    · rename_i hlt
      exact ⟨fun _ => ms _ _ hb, fun hh => by omega⟩
    · rename_i hlt
      exact ⟨fun hh => by omega, fun _ => ms _ _ hb⟩
  have lgd : ∀ k, (L.map fun r => (ids r.T, ids r.W)).getD k ([], []) = (ids (L.getD k default).T, ids (L.getD k default).W) := fun k => by
    rw [List.getD_eq_getElem?_getD, List.getElem?_map, List.getD_eq_getElem?_getD]
    cases L[k]? <;> rfl
  have pair : ∀ i j oi oj, ops[i]? = some oi → ops[j]? = some oj → i ≠ j → Ord ops i j ∨ ((∀ t, oj.dst = some t → t ∉ slotsOf ops oi ∧ oi.dst ≠ some t) ∧ ∀ id, id ∈ ids (L.getD j default).W → id ∉ ids (L.getD i default).T) := fun i j oi oj hi hj hne => by
    have := c2 _ (mem i oi hi) _ (mem j oj hj)
    simp only [Bool.or_eq_true, Bool.and_eq_true, beq_iff_eq] at this
    rcases this with (h1 | h1) | ⟨h1, h2⟩
    · exact absurd h1 hne
    · exact .inl (hord i j h1)
    · refine .inr ⟨fun t ht => ?_, fun id hid => ?_⟩
      · rw [ht] at h1
        simp only [Bool.not_eq_true', Bool.or_eq_false_iff, beq_eq_false_iff_ne, ne_eq] at h1
        exact ⟨fun hm => by
          have := h1.1
          rw [List.contains_eq_mem, decide_eq_false_iff_not] at this
          exact this hm, h1.2⟩
      · rw [List.all_eq_true, lgd, lgd] at h2
        have h3 := h2 id hid
        rw [Bool.not_eq_true', List.contains_eq_mem, decide_eq_false_iff_not] at h3
        exact h3
  have getO : ∀ i, i < ops.size → ∃ o, ops[i]? = some o := fun i hi => ⟨ops[i], Array.getElem?_eq_getElem hi⟩
  have dOf : ∀ i o, ops[i]? = some o → dstOf ops i = o.dst := fun i o ho => by simp [dstOf, ho]
  refine ⟨⟨?_, ?_, ?_, ?_, ?_, ?_⟩, fun i hi => ?_, ?_, ?_⟩
  · intro i o e ho he hb
    have := c1 _ (mem i o ho)
    have h2 := this e (by simpa using he)
    simpa [hb] using h2
  · intro i t av hi hm
    obtain ⟨fk, hk, ha, e2, e3⟩ := all i hi
    rw [← e2]; exact ha.ins t av hm
  · intro i id ge hi hm
    obtain ⟨fk, hk, ha, e2, e3⟩ := all i hi
    rw [← e3]; exact ha.ent _ hm
  · intro i id hi hw
    obtain ⟨fk, hk, ha, e2, e3⟩ := all i hi
    unfold wrI at hw
    cases hf : wfind (L.getD i default).W id with
    | none => rw [hf] at hw; cases hw
    | some ge =>
      have : (id, ge) ∈ (L.getD i default).W := by
        clear hw ha
        generalize (L.getD i default).W = W at hf
        induction W with
        | nil => cases hf
        | cons p W ih =>
          obtain ⟨a, b⟩ := p
          simp only [wfind_cons] at hf
          split at hf
          · rename_i e; subst e; cases hf; exact List.mem_cons_self ..
          · exact List.mem_cons_of_mem _ (ih hf)
      exact ha.sub _ this
  · intro i j t hi hj hne h1 h2
    obtain ⟨oi, ho⟩ := getO i hi
    obtain ⟨oj, hoj⟩ := getO j hj
    rcases pair i j oi oj ho hoj hne with h3 | ⟨h3, _⟩
    · exact h3
    · exfalso
      have h4 := h3 t (by rw [← dOf j oj hoj]; exact h2)
      rcases h1 with ⟨av, hm⟩ | h1
      · obtain ⟨fk, hk, ha, e2, e3⟩ := all i hi
        obtain ⟨o, ho', hs⟩ := ha.slots t av hm
        rw [ho] at ho'
        cases ho'
        refine h4.1 ?_
        unfold slotsOf
        rw [List.mem_append]
        rcases hs with ⟨x, hx, rfl⟩ | ⟨k, w, hg, hd⟩
        · left
          rw [List.mem_filterMap]
          exact ⟨_, by simpa using hx, rfl⟩
        · right
          rw [hg]
          show t ∈ (dstOf ops k).toList
          rw [hd]; simp
      · exact h4.2 (by rw [← dOf i oi ho]; exact h1)
  · intro i j id hi hj hne h1 h2
    obtain ⟨oi, ho⟩ := getO i hi
    obtain ⟨oj, hoj⟩ := getO j hj
    rcases pair i j oi oj ho hoj hne with h3 | ⟨_, h3⟩
    · exact h3
    · exfalso
      obtain ⟨ge, hm⟩ := h1
      have hw : id ∈ ids (L.getD j default).W := by
        unfold wrI at h2
        generalize (L.getD j default).W = W at h2
        clear h3
        induction W with
        | nil => cases h2
        | cons p W ih =>
          obtain ⟨a, b⟩ := p
          simp only [wfind_cons] at h2
          split at h2
          · rename_i e; subst e; simp [ids]
          · have := ih h2
            simp only [ids, List.map_cons, List.mem_cons] at this ⊢
            exact .inr this
      exact h3 id hw (List.mem_map.2 ⟨_, hm, rfl⟩)
  · obtain ⟨fk, hk, ha, _⟩ := all i hi
    exact ha.op
  · rw [k2]
    funext t
    exact FV_congr (fun j hj _ => by simp [hj])
  · rw [k3]
    funext t
    exact HV_congr (fun j hj _ => by simp [hj])
end Go.Proofs.Ytcleiaibcfocdaa.Am
