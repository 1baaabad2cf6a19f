/- The abstract machine, part 3: a region's operations, in the text's order and in any order that its edges allow. -/
import Derived.Test.YtcleiaibcfocdaaAm2
set_option linter.unusedVariables false
set_option linter.unusedSimpArgs false
namespace Go.Proofs.Ytcleiaibcfocdaa.Am
open Go Go.RowKit

def upds (h : HF) (W : List (Nat × (Nat × Ent))) : HF := fun k => match wfind W k with
  | some ge => some ge
  | none => h k
theorem upds_nil (h : HF) : upds h [] = h := rfl
theorem upds_one (h : HF) (id : Nat) (ge : Nat × Ent) : upds h [(id, ge)] = upd h id ge := by
  funext k
  simp only [upds, wfind_cons, wfind_nil, upd]
  by_cases e : k = id
  · subst e; simp
  · simp [e, Ne.symm e]

/-- What is known of an operation's run: what it reads (slots, entries), what it leaves (its slot, entries). -/
structure OR where
  ins : List (Nat × AV)
  T : List (Nat × (Nat × Ent))
  W : List (Nat × (Nat × Ent))
  out : AV

def dstOf (ops : Array Oper) (i : Nat) : Option Nat := (ops[i]?).bind (·.dst)

def OpT (P : Program) (ops : Array Oper) (i : Nat) (r : OR) : Prop :=
  ∀ (X : Cx) (B : Base) (h : HF) (a : Act) (w : World) (Q : Exit → Act → World → Prop) (K : Act → World → Prop), SRh X B h w →
    (∀ t av, (t, av) ∈ r.ins → VR X w av (a.tmps.getD t undef)) → (∀ id ge, (id, ge) ∈ r.T → h id = some ge) →
    (∀ X' w' v, X.le X' → SRh X' B (upds h r.W) w' → (∀ b, X.ok2 b → w'.heap[b]? = w.heap[b]?) → VR X' w' r.out v → K (a.put (dstOf ops i) v) w') →
    wpOp P ops Q i K a w

def lastIdx : Nat → (Nat → Bool) → Option Nat
  | 0, _ => none
  | n + 1, p => if p n then some n else lastIdx n p

theorem lastIdx_congr {n : Nat} {p q : Nat → Bool} (h : ∀ j, j < n → p j = q j) : lastIdx n p = lastIdx n q := by
  induction n with
  | zero => rfl
  | succ n ih =>
    simp only [lastIdx, h n (Nat.lt_succ_self n)]
    rw [ih (fun j hj => h j (Nat.lt_succ_of_lt hj))]

theorem lastIdx_some {n : Nat} {p : Nat → Bool} {j : Nat} (hj : j < n) (hp : p j = true) (hl : ∀ k, k < n → j < k → p k = false) : lastIdx n p = some j := by
  induction n with
  | zero => omega
  | succ n ih =>
    simp only [lastIdx]
    by_cases e : j = n
    · subst e; simp [hp]
    · rw [hl n (Nat.lt_succ_self n) (by omega)]
      simp only [Bool.false_eq_true, if_false]
      exact ih (by omega) (fun k hk => hl k (by omega))

theorem lastIdx_none {n : Nat} {p : Nat → Bool} (hl : ∀ k, k < n → p k = false) : lastIdx n p = none := by
  induction n with
  | zero => rfl
  | succ n ih =>
    simp only [lastIdx, hl n (Nat.lt_succ_self n), Bool.false_eq_true, if_false]
    exact ih (fun k hk => hl k (by omega))

section
variable (ops : Array Oper) (rs : Nat → OR) (f0 : FF) (h0 : HF)

def wrT (i t : Nat) : Bool := dstOf ops i == some t
def wrI (i id : Nat) : Bool := (wfind (rs i).W id).isSome

/-- What slot t holds when just the operations of L have been done. -/
def FV (L : Nat → Bool) : FF := fun t => match lastIdx ops.size (fun j => L j && wrT ops j t) with
  | some j => some (rs j).out
  | none => f0 t
def HV (L : Nat → Bool) : HF := fun id => match lastIdx ops.size (fun j => L j && wrI rs j id) with
  | some j => wfind (rs j).W id
  | none => h0 id

inductive Reach : Nat → Nat → Prop
  | edge {i : Nat} {o : Oper} {e : Edge} (hi : ops[i]? = some o) (he : e ∈ o.after) (hb : Region.binds .any e = true) : Reach e.on i
  | trans {i j k : Nat} (h : Reach i j) (h' : Reach j k) : Reach i k

/-- Operations i and j are done in the text's order. -/
def Ord (i j : Nat) : Prop := (i < j → Reach ops i j) ∧ (j < i → Reach ops j i)

structure RegOK : Prop where
  back : ∀ i o e, ops[i]? = some o → e ∈ o.after → Region.binds .any e = true → e.on < i
  ins : ∀ i t av, i < ops.size → (t, av) ∈ (rs i).ins → FV ops rs f0 (fun j => decide (j < i)) t = some av
  ent : ∀ i id ge, i < ops.size → (id, ge) ∈ (rs i).T → HV ops rs h0 (fun j => decide (j < i)) id = some ge
  wt : ∀ i id, i < ops.size → wrI rs i id = true → ∃ ge, (id, ge) ∈ (rs i).T
  ordT : ∀ i j t, i < ops.size → j < ops.size → i ≠ j → ((∃ av, (t, av) ∈ (rs i).ins) ∨ dstOf ops i = some t) → dstOf ops j = some t → Ord ops i j
  ordI : ∀ i j id, i < ops.size → j < ops.size → i ≠ j → (∃ ge, (id, ge) ∈ (rs i).T) → wrI rs j id = true → Ord ops i j
end

section
variable {P : Program} {ops : Array Oper} {rs : Nat → OR} {f0 : FF} {h0 : HF}

def ClosedL (ops : Array Oper) (L : Nat → Bool) : Prop := ∀ i o e, L i = true → ops[i]? = some o → e ∈ o.after → Region.binds .any e = true → L e.on = true

theorem closed_reach {L : Nat → Bool} (hL : ClosedL ops L) {j i : Nat} (h : Reach ops j i) : L i = true → L j = true := by
  induction h with
  | edge hi he hb => exact fun hl => hL _ _ _ hl hi he hb
  | trans _ _ ih ih' => exact fun hl => ih (ih' hl)

theorem ready_reach {L : Nat → Bool} (hL : ClosedL ops L) {j i : Nat} (h : Reach ops j i) : (∀ o e, ops[i]? = some o → e ∈ o.after → Region.binds .any e = true → L e.on = true) → L j = true := by
  induction h with
  | edge hi he hb => exact fun hr => hr _ _ hi he hb
  | trans h1 _ _ ih' => exact fun hr => closed_reach hL h1 (ih' hr)

/-- Which of the writers have been done when i comes up: those ahead of it in the text. -/
theorem writers_at {L : Nat → Bool} (hL : ClosedL ops L) {i : Nat} (hi : L i = false) (hr : ∀ o e, ops[i]? = some o → e ∈ o.after → Region.binds .any e = true → L e.on = true)
    {j : Nat} (hj : i ≠ j → Ord ops i j) : L j = decide (j < i) := by
  by_cases e : i = j
  · subst e; simp [hi]
  · rcases Nat.lt_or_ge j i with h | h
    · simp only [h, decide_true]
      exact ready_reach hL ((hj e).2 h) hr
    · have hlt : i < j := by omega
      rw [decide_eq_false (by omega)]
      cases hl : L j with
      | false => rfl
      | true => rw [closed_reach hL ((hj e).1 hlt) hl] at hi; cases hi

theorem FV_congr {L L' : Nat → Bool} {t : Nat} (h : ∀ j, j < ops.size → wrT ops j t = true → L j = L' j) : FV ops rs f0 L t = FV ops rs f0 L' t := by
  unfold FV
  rw [lastIdx_congr (q := fun j => L' j && wrT ops j t) (fun j hj => by
    cases hw : wrT ops j t with
    | false => simp
    | true => simp [h j hj hw])]
theorem HV_congr {L L' : Nat → Bool} {id : Nat} (h : ∀ j, j < ops.size → wrI rs j id = true → L j = L' j) : HV ops rs h0 L id = HV ops rs h0 L' id := by
  unfold HV
  rw [lastIdx_congr (q := fun j => L' j && wrI rs j id) (fun j hj => by
    cases hw : wrI rs j id with
    | false => simp
    | true => simp [h j hj hw])]

def addL (L : Nat → Bool) (i : Nat) : Nat → Bool := fun j => if j = i then true else L j

theorem FV_add (H : RegOK ops rs f0 h0) {L : Nat → Bool} (hL : ClosedL ops L) {i : Nat} (hi : i < ops.size) (hli : L i = false) (hr : ∀ o e, ops[i]? = some o → e ∈ o.after → Region.binds .any e = true → L e.on = true) :
    FV ops rs f0 (addL L i) = fput (FV ops rs f0 L) (dstOf ops i) (rs i).out := by
  funext t
  by_cases ht : dstOf ops i = some t
  · rw [ht]
    simp only [fput, if_true]
    unfold FV
    rw [lastIdx_some (j := i) hi (by simp [addL, wrT, ht]) (fun k hk hik => ?_)]
    cases hw : wrT ops k t with
    | false => simp
    | true =>
      have hd : dstOf ops k = some t := by simpa [wrT] using hw
      have := writers_at hL hli hr (j := k) (fun hne => H.ordT i k t hi hk hne (.inr ht) hd)
      rw [decide_eq_false (by omega)] at this
      simp [addL, this, show ¬ k = i by omega]
  · have hft : fput (FV ops rs f0 L) (dstOf ops i) (rs i).out t = FV ops rs f0 L t := by
      cases hd : dstOf ops i with
      | none => rfl
      | some k =>
        simp only [fput]
        rw [if_neg (fun e => ht (by rw [hd, e]))]
    rw [hft]
    refine FV_congr (fun j hj hw => ?_)
    have : j ≠ i := by
      rintro rfl
      exact ht (by simpa [wrT] using hw)
    simp [addL, this]

theorem HV_add (H : RegOK ops rs f0 h0) {L : Nat → Bool} (hL : ClosedL ops L) {i : Nat} (hi : i < ops.size) (hli : L i = false) (hr : ∀ o e, ops[i]? = some o → e ∈ o.after → Region.binds .any e = true → L e.on = true) :
    HV ops rs h0 (addL L i) = upds (HV ops rs h0 L) (rs i).W := by
  funext id
  by_cases ht : wrI rs i id = true
  · have h1 : HV ops rs h0 (addL L i) id = wfind (rs i).W id := by
      unfold HV
      rw [lastIdx_some (j := i) hi (by simp [addL, ht]) (fun k hk hik => ?_)]
      cases hw : wrI rs k id with
      | false => simp
      | true =>
        have := writers_at hL hli hr (j := k) (fun hne => H.ordI i k id hi hk hne (H.wt i id hi ht) hw)
        rw [decide_eq_false (by omega)] at this
        simp [addL, this, show ¬ k = i by omega]
    rw [h1]
    unfold upds
    cases hw : wfind (rs i).W id with
    | none => simp [wrI, hw] at ht
    | some ge => rfl
  · have h1 : wfind (rs i).W id = none := by
      cases hw : wfind (rs i).W id with
      | none => rfl
      | some ge => simp [wrI, hw] at ht
    simp only [upds, h1]
    refine HV_congr (fun j hj hw => ?_)
    have : j ≠ i := by
      rintro rfl
      exact ht hw
    simp [addL, this]

/-- One operation that may come up. -/
theorem step_at (H : RegOK ops rs f0 h0) (hT : ∀ i, i < ops.size → OpT P ops i (rs i)) {n : Nat} (hd : ∀ i k, dstOf ops i = some k → k < n) {L : Nat → Bool} (hL : ClosedL ops L) {i : Nat} (hi : i < ops.size)
    (hli : L i = false) (hr : ∀ o e, ops[i]? = some o → e ∈ o.after → Region.binds .any e = true → L e.on = true)
    {X : Cx} {B : Base} {a : Act} {w : World} {Q : Exit → Act → World → Prop} {K : Act → World → Prop} (hS : SRh X B (HV ops rs h0 L) w) (hF : FrOK X w n (FV ops rs f0 L) a)
    (hK : ∀ X' w' a', X.le X' → (∀ b, X.ok2 b → w'.heap[b]? = w.heap[b]?) → SRh X' B (HV ops rs h0 (addL L i)) w' → FrOK X' w' n (FV ops rs f0 (addL L i)) a' → a'.defers = a.defers → K a' w') : wpOp P ops Q i K a w := by
  refine hT i hi X B (HV ops rs h0 L) a w Q K hS (fun t av hm => ?_) (fun id ge hm => ?_) (fun X' w' v hX hS' hok hv => ?_)
  · have h1 := H.ins i t av hi hm
    rw [FV_congr (L' := L) (fun j hj hw => (writers_at hL hli hr (fun hne => H.ordT i j t hi hj hne (.inl ⟨av, hm⟩) (by simpa [wrT] using hw))).symm)] at h1
    obtain ⟨v, h2, h3⟩ := hF.slot t av h1
    simp [Array.getD_eq_getD_getElem?, h2]
    exact h3
  · have h1 := H.ent i id ge hi hm
    rw [HV_congr (L' := L) (fun j hj hw => (writers_at hL hli hr (fun hne => H.ordI i j id hi hj hne ⟨ge, hm⟩ hw)).symm)] at h1
    exact h1
  · refine hK X' w' _ hX hok ?_ ?_ (by cases dstOf ops i <;> rfl)
    · rw [HV_add H hL hi hli hr]; exact hS'
    · rw [FV_add H hL hi hli hr]
      exact (hF.mono hX hS.ok12 hok).put _ hv (fun k hk => hd i k hk)

theorem closed_add {L : Nat → Bool} (hL : ClosedL ops L) {i : Nat} (hr : ∀ o e, ops[i]? = some o → e ∈ o.after → Region.binds .any e = true → L e.on = true) : ClosedL ops (addL L i) := by
  intro j o e hj ho he hb
  by_cases hji : j = i
  · subst hji
    have := hr o e ho he hb
    simp only [addL]
    split <;> simp [*]
  · simp only [addL, hji, if_false] at hj
    have := hL j o e hj ho he hb
    simp only [addL]
    split <;> simp [*]

theorem mem_ready {listed : Array Bool} {i : Nat} (h : i ∈ Region.ready .any ops listed) : i < ops.size ∧ listed.getD i true = false ∧ ∀ o e, ops[i]? = some o → e ∈ o.after → Region.binds .any e = true → listed.getD e.on false = true := by
  unfold Region.ready at h
  rw [List.mem_filter, List.mem_range] at h
  obtain ⟨h1, h2⟩ := h
  rw [Bool.and_eq_true] at h2
  refine ⟨h1, by simpa using h2.1, fun o e ho he hb => ?_⟩
  have h3 := h2.2
  rw [ho] at h3
  simp only [Option.map_some, Option.getD_some, Array.all_eq_true'] at h3
  have := h3 e he
  simpa [hb] using this

theorem ready_nil (H : RegOK ops rs f0 h0) {listed : Array Bool} (hs : listed.size = ops.size) (h : Region.ready .any ops listed = []) : ∀ i, i < ops.size → listed.getD i false = true := by
  intro i
  induction i using Nat.strongRecOn with
  | _ i ih =>
    intro hi
    have hn : i ∉ Region.ready .any ops listed := by rw [h]; simp
    unfold Region.ready at hn
    rw [List.mem_filter, List.mem_range] at hn
    have hall : ((ops[i]?).map (·.after.all fun e => !Region.binds .any e || listed.getD e.on false)).getD false = true := by
      obtain ⟨o, ho⟩ : ∃ o, ops[i]? = some o := ⟨ops[i], Array.getElem?_eq_getElem hi⟩
      rw [ho]
      simp only [Option.map_some, Option.getD_some, Array.all_eq_true']
      intro e he
      cases hb : Region.binds .any e with
      | false => rfl
      | true =>
        have := H.back i o e ho he hb
        simp only [Bool.not_true, Bool.false_or]
        exact ih e.on this (by omega)
    rw [hall] at hn
    cases hl : listed.getD i true with
    | false => exact absurd ⟨hi, by simp [hl]⟩ hn
    | true =>
      rw [Array.getD_eq_getD_getElem?] at hl ⊢
      rw [Array.getElem?_eq_getElem (by omega)] at hl ⊢
      exact hl

def bits (listed : Array Bool) : Nat → Bool := fun i => listed.getD i false

theorem bits_set {listed : Array Bool} {i : Nat} (hi : i < listed.size) : bits (listed.setIfInBounds i true) = addL (bits listed) i := by
  funext j
  simp only [bits, addL, Array.getD_eq_getD_getElem?, Array.getElem?_setIfInBounds]
  by_cases e : i = j
  · subst e; simp [hi]
  · simp [e, Ne.symm e]

theorem any_order (H : RegOK ops rs f0 h0) (hT : ∀ i, i < ops.size → OpT P ops i (rs i)) {n : Nat} (hd : ∀ i k, dstOf ops i = some k → k < n) {B : Base} {G : Cx → World → Prop} (hG : ∀ X w X' w', G X w → X.le X' → (∀ b, X.ok2 b → w'.heap[b]? = w.heap[b]?) → G X' w') {D : List Deferred} {Q : Exit → Act → World → Prop}
    (hQ : ∀ X w a, G X w → SRh X B (HV ops rs h0 (fun _ => true)) w → FrOK X w n (FV ops rs f0 (fun _ => true)) a → a.defers = D → Q .normal a w) :
    ∀ (fuel : Nat) (listed : Array Bool) (X : Cx) (a : Act) (w : World), listed.size = ops.size → ((List.range ops.size).filter (fun i => !bits listed i)).length ≤ fuel → ClosedL ops (bits listed) → G X w →
      SRh X B (HV ops rs h0 (bits listed)) w → FrOK X w n (FV ops rs f0 (bits listed)) a → a.defers = D → wpAny P .any ops Q fuel listed a w := by
  intro fuel
  have fin : ∀ (listed : Array Bool) (X : Cx) (a : Act) (w : World), (∀ i, i < ops.size → bits listed i = true) → G X w → SRh X B (HV ops rs h0 (bits listed)) w → FrOK X w n (FV ops rs f0 (bits listed)) a → a.defers = D → Q .normal a w := by
    intro listed X a w hall hX hS hF hD
    have e1 : HV ops rs h0 (bits listed) = HV ops rs h0 (fun _ => true) := funext fun id => HV_congr (fun j hj _ => hall j hj)
    have e2 : FV ops rs f0 (bits listed) = FV ops rs f0 (fun _ => true) := funext fun id => FV_congr (fun j hj _ => hall j hj)
    rw [e1] at hS
    rw [e2] at hF
    exact hQ X w a hX hS hF hD
  induction fuel with
  | zero =>
    intro listed X a w hs hf hL hX hS hF hD
    have hall : ∀ i, i < ops.size → bits listed i = true := by
      intro i hi
      have h0 : (List.range ops.size).filter (fun i => !bits listed i) = [] := List.eq_nil_of_length_eq_zero (by omega)
      cases hb : bits listed i with
      | true => rfl
      | false =>
        have : i ∈ (List.range ops.size).filter (fun i => !bits listed i) := by
          rw [List.mem_filter, List.mem_range]
          exact ⟨hi, by simp [hb]⟩
        rw [h0] at this
        cases this
    refine ⟨?_, fin listed X a w hall hX hS hF hD⟩
    cases hr : Region.ready .any ops listed with
    | nil => rfl
    | cons i l =>
      exfalso
      obtain ⟨h1, h2, _⟩ := mem_ready (show i ∈ Region.ready .any ops listed by rw [hr]; simp)
      have h3 := hall i h1
      simp only [bits, Array.getD_eq_getD_getElem?] at h2 h3
      rw [Array.getElem?_eq_getElem (by omega)] at h2 h3
      simp only [Option.getD_some] at h2 h3
      rw [h2] at h3
      cases h3
  | succ fuel ih =>
    intro listed X a w hs hf hL hX hS hF hD
    refine ⟨fun hr => fin listed X a w (ready_nil H hs hr) hX hS hF hD, fun i hi => ?_⟩
    obtain ⟨h1, h2, h3⟩ := mem_ready hi
    have hli : bits listed i = false := by
      simp only [bits, Array.getD_eq_getD_getElem?] at h2 ⊢
      rw [Array.getElem?_eq_getElem (by omega)] at h2 ⊢
      simpa using h2
    refine step_at H hT hd hL h1 hli h3 hS hF (fun X' w' a' hX' hk' hS' hF' hD' => ?_)
    have hb := bits_set (listed := listed) (i := i) (by omega)
    refine ih _ X' a' w' (by simp [hs]) ?_ (by rw [hb]; exact closed_add hL h3) (hG _ _ _ _ hX hX' hk') (by rw [hb]; exact hS') (by rw [hb]; exact hF') (hD'.trans hD)
    rw [hb]
    have hlt : ((List.range ops.size).filter (fun j => !addL (bits listed) i j)).length < ((List.range ops.size).filter (fun j => !bits listed j)).length := by
      have hsub : (List.range ops.size).filter (fun j => !addL (bits listed) i j) = ((List.range ops.size).filter (fun j => !bits listed j)).filter (fun j => !(j == i)) := by
        rw [List.filter_filter]
        refine List.filter_congr (fun j _ => ?_)
        simp only [addL]
        by_cases e : j = i <;> simp [e]
      rw [hsub]
      refine List.length_filter_lt_length_iff_exists.2 ⟨i, ?_, by simp⟩
      rw [List.mem_filter, List.mem_range]
      exact ⟨h1, by simp [hli]⟩
    omega

/-- The text's order. -/
theorem text_order (H : RegOK ops rs f0 h0) (hT : ∀ i, i < ops.size → OpT P ops i (rs i)) {n : Nat} (hd : ∀ i k, dstOf ops i = some k → k < n) {B : Base} {G : Cx → World → Prop} (hG : ∀ X w X' w', G X w → X.le X' → (∀ b, X.ok2 b → w'.heap[b]? = w.heap[b]?) → G X' w') {D : List Deferred} {Q : Exit → Act → World → Prop}
    (hQ : ∀ X w a, G X w → SRh X B (HV ops rs h0 (fun _ => true)) w → FrOK X w n (FV ops rs f0 (fun _ => true)) a → a.defers = D → Q .normal a w) :
    ∀ (m i : Nat) (X : Cx) (a : Act) (w : World), i + m = ops.size → G X w → SRh X B (HV ops rs h0 (fun j => decide (j < i))) w → FrOK X w n (FV ops rs f0 (fun j => decide (j < i))) a → a.defers = D →
      wpOps P ops Q (List.range' i m) a w := by
  intro m
  induction m with
  | zero =>
    intro i X a w him hX hS hF hD
    have e1 : HV ops rs h0 (fun j => decide (j < i)) = HV ops rs h0 (fun _ => true) := funext fun id => HV_congr (fun j hj _ => by simp; omega)
    have e2 : FV ops rs f0 (fun j => decide (j < i)) = FV ops rs f0 (fun _ => true) := funext fun id => FV_congr (fun j hj _ => by simp; omega)
    rw [e1] at hS
    rw [e2] at hF
    exact hQ X w a hX hS hF hD
  | succ m ih =>
    intro i X a w him hX hS hF hD
    have hadd : addL (fun j => decide (j < i)) i = fun j => decide (j < i + 1) := by
      funext j
      simp only [addL]
      by_cases e : j = i
      · simp [e]
      · rw [if_neg e]
        exact decide_eq_decide.2 (by omega)
    rw [List.range'_succ, wpOps_cons]
    refine step_at (L := fun j => decide (j < i)) H hT hd (fun j o e hj ho he hb => ?_) (i := i) (by omega) (by simp) (fun o e ho he hb => ?_) hS hF (fun X' w' a' hX' hk' hS' hF' hD' => ?_)
    · have := H.back j o e ho he hb
      have : j < i := by simpa using hj
      simp; omega
    · have := H.back i o e ho he hb
      simpa using this
    · rw [hadd] at hS' hF'
      exact ih (i + 1) X' a' w' (by omega) (hG _ _ _ _ hX hX' hk') hS' hF' (hD'.trans hD)

theorem region_sound (hm : P.follows .mixedOrders = true) (H : RegOK ops rs f0 h0) (hT : ∀ i, i < ops.size → OpT P ops i (rs i)) {n : Nat} (hd : ∀ i k, dstOf ops i = some k → k < n) {B : Base} {X : Cx} {Q : Exit → Act → World → Prop} {id : Nat} {draw : Bool} {a : Act} {w : World}
    (hS : SRh X B h0 w) (hF : FrOK X w n f0 a)
    (hQ : ∀ X' w' a', X.le X' → (∀ b, X.ok2 b → w'.heap[b]? = w.heap[b]?) → SRh X' B (HV ops rs h0 (fun _ => true)) w' → FrOK X' w' n (FV ops rs f0 (fun _ => true)) a' → a'.defers = a.defers → Q .normal a' w') : (Code.region id ops draw).wp P Q a w := by
  have e1 : HV ops rs h0 (fun _ => false) = h0 := by
    funext k
    unfold HV
    rw [lastIdx_none (fun j _ => by simp)]
  have e2 : FV ops rs f0 (fun _ => false) = f0 := by
    funext k
    unfold FV
    rw [lastIdx_none (fun j _ => by simp)]
  cases draw with
  | false =>
    refine wp_region ?_
    rw [List.range_eq_range']
    have e3 : (fun j => decide (j < 0)) = (fun _ : Nat => false) := by funext j; simp
    refine text_order H hT hd (G := fun X' w' => X.le X' ∧ ∀ b, X.ok2 b → w'.heap[b]? = w.heap[b]?) (fun X1 w1 X2 w2 h1 h2 h3 => ⟨h1.1.trans h2, fun b hb => (h3 b (h1.1.ok2 b hb)).trans (h1.2 b hb)⟩) (D := a.defers) (fun X' w' a' h1 h2 h3 h4 => hQ X' w' a' h1.1 h1.2 h2 h3 h4) ops.size 0 X a w (by omega) ⟨Cx.le.refl X, fun _ _ => rfl⟩ ?_ ?_ rfl
    · rw [e3, e1]; exact hS
    · rw [e3, e2]; exact hF
  | true =>
    refine wp_region_any hm ?_
    have hb : bits (Array.replicate ops.size false) = fun _ => false := by
      funext j
      simp only [bits, Array.getD_eq_getD_getElem?, Array.getElem?_replicate]
      split <;> rfl
    refine any_order H hT hd (G := fun X' w' => X.le X' ∧ ∀ b, X.ok2 b → w'.heap[b]? = w.heap[b]?) (fun X1 w1 X2 w2 h1 h2 h3 => ⟨h1.1.trans h2, fun b hb => (h3 b (h1.1.ok2 b hb)).trans (h1.2 b hb)⟩) (D := a.defers) (fun X' w' a' h1 h2 h3 h4 => hQ X' w' a' h1.1 h1.2 h2 h3 h4) ops.size (Array.replicate ops.size false) X a _ (by simp) ?_ ?_ ⟨Cx.le.refl X, fun _ _ => rfl⟩ ?_ ?_ rfl
    · have := List.length_filter_le (fun i => !bits (Array.replicate ops.size false) i) (List.range ops.size)
      simpa using this
    · intro i o e hi
      rw [hb] at hi
      cases hi
    · rw [hb, e1]; exact hS.drew rfl rfl rfl rfl
    · rw [hb, e2]; exact hF.mono (Cx.le.refl X) hS.ok12 (fun _ _ => rfl)
end
end Go.Proofs.Ytcleiaibcfocdaa.Am
