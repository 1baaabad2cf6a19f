/- Plain law, part 2: a heap in a row. -/
import Derived.Test.YtcleiaibcfocdaaPu1
set_option linter.unusedVariables false
set_option linter.unusedSimpArgs false
namespace Go.Proofs.Ytcleiaibcfocdaa.Am

section
variable {α : Type} {lt : α → α → Bool}

/-- Two elements change places. -/
def sw (l : List α) (i j : Nat) : List α := match l[i]?, l[j]? with
  | some a, some b => (l.set i b).set j a
  | _, _ => l
theorem sw_eq {l : List α} {i j : Nat} {a b : α} (hi : l[i]? = some a) (hj : l[j]? = some b) : sw l i j = (l.set i b).set j a := by simp [sw, hi, hj]
theorem sw_len (l : List α) (i j : Nat) : (sw l i j).length = l.length := by
  unfold sw; split <;> simp
theorem sw_get {l : List α} {i j : Nat} {a b : α} (hi : l[i]? = some a) (hj : l[j]? = some b) (k : Nat) : (sw l i j)[k]? = if k = j then some a else if k = i then some b else l[k]? := by
  have h1 := (List.getElem?_eq_some_iff.1 hi).1
  have h2 := (List.getElem?_eq_some_iff.1 hj).1
  rw [sw_eq hi hj, List.getElem?_set, List.getElem?_set]
  by_cases e : k = j
  · subst e; simp [h2]
  · rw [if_neg (Ne.symm e), if_neg e]
    by_cases e2 : k = i
    · subst e2; simp [h1]
    · rw [if_neg (Ne.symm e2), if_neg e2]
theorem sw_perm (l : List α) (i j : Nat) : (sw l i j).Perm l := by
  unfold sw
  split
  · rename_i a b hi hj
    obtain ⟨h1, e1⟩ := List.getElem?_eq_some_iff.1 hi
    obtain ⟨h2, e2⟩ := List.getElem?_eq_some_iff.1 hj
    have := Array.swap_perm (xs := l.toArray) (i := i) (j := j) (by simpa using h1) (by simpa using h2)
    have e : (l.toArray.swap i j (by simpa using h1) (by simpa using h2)).toList = (l.set i b).set j a := by
      simp [Array.swap, e1, e2]
    have := this.toList
    rw [e] at this
    simpa using this
  · exact List.Perm.refl _

def Heap (lt : α → α → Bool) (l : List α) : Prop := ∀ i a b, 0 < i → l[i]? = some a → l[(i - 1) / 2]? = some b → lt a b = false

/-- Up, from a place on. -/
def siftUp (lt : α → α → Bool) (l : List α) (k : Nat) : List α :=
  if h : 0 < k then match l[k]?, l[(k - 1) / 2]? with
    | some a, some b => if lt a b then siftUp lt (sw l k ((k - 1) / 2)) ((k - 1) / 2) else l
    | _, _ => l
  else l
termination_by k
decreasing_by omega
theorem siftUp_step {l : List α} {k : Nat} {a b : α} (h : 0 < k) (ha : l[k]? = some a) (hb : l[(k - 1) / 2]? = some b) (hl : lt a b = true) : siftUp lt l k = siftUp lt (sw l k ((k - 1) / 2)) ((k - 1) / 2) := by
  rw [siftUp, dif_pos h, ha, hb]; simp [hl]
theorem siftUp_stop {l : List α} {k : Nat} {a b : α} (ha : l[k]? = some a) (hb : l[(k - 1) / 2]? = some b) (hl : lt a b = false) : siftUp lt l k = l := by
  rw [siftUp]; split
  · rw [ha, hb]; simp [hl]
  · rfl
theorem siftUp_zero {l : List α} : siftUp lt l 0 = l := by rw [siftUp]; simp

def HU (lt : α → α → Bool) (l : List α) (k : Nat) : Prop :=
  (∀ i a b, 0 < i → i ≠ k → l[i]? = some a → l[(i - 1) / 2]? = some b → lt a b = false) ∧
  (∀ i a b, 0 < k → 0 < i → (i - 1) / 2 = k → l[i]? = some a → l[(k - 1) / 2]? = some b → lt a b = false)

theorem siftUp_heap (O : STO lt) (k : Nat) : ∀ (l : List α), k < l.length → HU lt l k → Heap lt (siftUp lt l k) ∧ (siftUp lt l k).Perm l := by
  induction k using Nat.strongRecOn with
  | _ k ih =>
  intro l hk h
  by_cases h0 : 0 < k
  · obtain ⟨a, ha⟩ : ∃ a, l[k]? = some a := ⟨_, List.getElem?_eq_getElem hk⟩
    obtain ⟨b, hb⟩ : ∃ b, l[(k - 1) / 2]? = some b := ⟨_, List.getElem?_eq_getElem (by omega)⟩
    cases hl : lt a b
    · rw [siftUp_stop ha hb hl]
      refine ⟨fun i c d hi hc hd => ?_, List.Perm.refl _⟩
      by_cases e : i = k
      · subst e; rw [ha] at hc; rw [hb] at hd; cases hc; cases hd; exact hl
      · exact h.1 i c d hi e hc hd
    · rw [siftUp_step h0 ha hb hl]
      have hg := sw_get ha hb
      have := ih ((k - 1) / 2) (by omega) (sw l k ((k - 1) / 2)) (by rw [sw_len]; omega) ⟨fun i c d hi hne hc hd => ?_, fun i c d hu hi hp hc hd => ?_⟩
      · exact ⟨this.1, this.2.trans (sw_perm _ _ _)⟩
      · rw [hg, if_neg hne] at hc
        rw [hg] at hd
        by_cases e : i = k
        · subst e
          rw [if_pos rfl] at hc
          rw [if_pos rfl] at hd
          cases hc; cases hd
          exact O.asymm hl
        · rw [if_neg e] at hc
          by_cases e1 : (i - 1) / 2 = (k - 1) / 2
          · rw [if_pos e1] at hd
            cases hd
            have h1 := h.1 i c b hi e hc (by rw [e1]; exact hb)
            cases hc' : lt c a
            · rfl
            · rw [O.trans _ _ _ hc' hl] at h1; cases h1
          · rw [if_neg e1] at hd
            by_cases e2 : (i - 1) / 2 = k
            · rw [if_pos e2] at hd
              cases hd
              exact h.2 i c b h0 hi e2 hc hb
            · rw [if_neg e2] at hd
              exact h.1 i c d hi e hc hd
      · have hd' : l[((k - 1) / 2 - 1) / 2]? = some d := by
          rw [hg, if_neg (by omega), if_neg (by omega)] at hd; exact hd
        have hbd := h.1 ((k - 1) / 2) b d hu (by omega) hb hd'
        rw [hg, if_neg (by omega)] at hc
        by_cases e : i = k
        · rw [if_pos e] at hc; cases hc; exact hbd
        · rw [if_neg e] at hc
          exact O.ntrans hbd (h.1 i c b hi e hc (by rw [hp]; exact hb))
  · have : k = 0 := by omega
    subst this
    rw [siftUp_zero]
    exact ⟨fun i c d hi hc hd => h.1 i c d hi (by omega) hc hd, List.Perm.refl _⟩

def hpush (lt : α → α → Bool) (l : List α) (x : α) : List α := siftUp lt (l ++ [x]) l.length
theorem hpush_heap (O : STO lt) {l : List α} (h : Heap lt l) (x : α) : Heap lt (hpush lt l x) ∧ (hpush lt l x).Perm (l ++ [x]) := by
  refine siftUp_heap O _ _ (by simp) ⟨fun i a b hi hne ha hb => ?_, fun i a b _ hi hp ha hb => ?_⟩
  · have hlt := (List.getElem?_eq_some_iff.1 ha).1
    simp only [List.length_append, List.length_cons, List.length_nil] at hlt
    rw [List.getElem?_append_left (by omega)] at ha
    rw [List.getElem?_append_left (by omega)] at hb
    exact h i a b hi ha hb
  · have hlt := (List.getElem?_eq_some_iff.1 ha).1
    simp only [List.length_append, List.length_cons, List.length_nil] at hlt
    omega
theorem siftUp_len (k : Nat) : ∀ l : List α, (siftUp lt l k).length = l.length := by
  induction k using Nat.strongRecOn with
  | _ k ih =>
  intro l
  rw [siftUp]
  split
  · split
    · split
      · rw [ih _ (by omega), sw_len]
      · rfl
    · rfl
  · rfl
theorem hpush_len (l : List α) (x : α) : (hpush lt l x).length = l.length + 1 := by rw [hpush, siftUp_len]; simp

/-- The lesser child of a place that has one. -/
def child (lt : α → α → Bool) (l : List α) (k : Nat) : Nat := match l[2 * k + 2]?, l[2 * k + 1]? with
  | some c, some d => if lt c d then 2 * k + 2 else 2 * k + 1
  | _, _ => 2 * k + 1
theorem child_or (l : List α) (k : Nat) : child lt l k = 2 * k + 1 ∨ (child lt l k = 2 * k + 2 ∧ 2 * k + 2 < l.length) := by
  unfold child
  split
  · rename_i c d h1 h2
    split
    · exact .inr ⟨rfl, (List.getElem?_eq_some_iff.1 h1).1⟩
    · exact .inl rfl
  · exact .inl rfl
theorem child_T {l : List α} {k : Nat} {c d : α} (hc : l[2 * k + 2]? = some c) (hd : l[2 * k + 1]? = some d) (h : lt c d = true) : child lt l k = 2 * k + 2 := by
  unfold child; rw [hc, hd]; simp [h]
theorem child_F {l : List α} {k : Nat} {c d : α} (hc : l[2 * k + 2]? = some c) (hd : l[2 * k + 1]? = some d) (h : lt c d = false) : child lt l k = 2 * k + 1 := by
  unfold child; rw [hc, hd]; simp [h]
theorem child_N {l : List α} {k : Nat} (h : ¬ 2 * k + 2 < l.length) : child lt l k = 2 * k + 1 := by
  unfold child; rw [List.getElem?_eq_none (by omega)]
/-- Down, from a place on. -/
def siftDown (lt : α → α → Bool) (l : List α) (k : Nat) : List α :=
  if h : 2 * k + 1 < l.length then match l[child lt l k]?, l[k]? with
    | some a, some b => if lt a b then siftDown lt (sw l (child lt l k) k) (child lt l k) else l
    | _, _ => l
  else l
termination_by l.length - k
decreasing_by
  rw [sw_len]
  rcases child_or (lt := lt) l k with h1 | h1 <;> omega
theorem siftDown_leaf {l : List α} {k : Nat} (h : ¬ 2 * k + 1 < l.length) : siftDown lt l k = l := by rw [siftDown, dif_neg h]
theorem siftDown_step {l : List α} {k : Nat} {a b : α} (h : 2 * k + 1 < l.length) (ha : l[child lt l k]? = some a) (hb : l[k]? = some b) (hl : lt a b = true) : siftDown lt l k = siftDown lt (sw l (child lt l k) k) (child lt l k) := by
  rw [siftDown, dif_pos h, ha, hb]; simp [hl]
theorem siftDown_stop {l : List α} {k : Nat} {a b : α} (ha : l[child lt l k]? = some a) (hb : l[k]? = some b) (hl : lt a b = false) : siftDown lt l k = l := by
  rw [siftDown]; split
  · rw [ha, hb]; simp [hl]
  · rfl
theorem child_le (O : STO lt) {l : List α} {k i : Nat} {c d : α} (hi : 0 < i) (hp : (i - 1) / 2 = k) (hc : l[i]? = some c) (hd : l[child lt l k]? = some d) : lt c d = false := by
  have hlt := (List.getElem?_eq_some_iff.1 hc).1
  unfold child at hd
  split at hd
  · rename_i x y h1 h2
    split at hd
    · rename_i hxy
      rw [h1] at hd; cases hd
      rcases (show i = 2 * k + 1 ∨ i = 2 * k + 2 by omega) with e | e
      · subst e; rw [h2] at hc; cases hc; exact O.asymm hxy
      · subst e; rw [h1] at hc; cases hc; exact O.irr _
    · rename_i hxy
      rw [h2] at hd; cases hd
      rcases (show i = 2 * k + 1 ∨ i = 2 * k + 2 by omega) with e | e
      · subst e; rw [h2] at hc; cases hc; exact O.irr _
      · subst e; rw [h1] at hc; cases hc; simpa using hxy
  · rename_i hno
    rcases (show i = 2 * k + 1 ∨ i = 2 * k + 2 by omega) with e | e
    · subst e; rw [hc] at hd; cases hd; exact O.irr _
    · subst e; exact absurd hd (fun h => hno c d hc h)

def HD (lt : α → α → Bool) (l : List α) (k : Nat) : Prop :=
  (∀ i a b, 0 < i → (i - 1) / 2 ≠ k → l[i]? = some a → l[(i - 1) / 2]? = some b → lt a b = false) ∧
  (∀ i a b, 0 < k → 0 < i → (i - 1) / 2 = k → l[i]? = some a → l[(k - 1) / 2]? = some b → lt a b = false)

theorem siftDown_heap (O : STO lt) : ∀ (n k : Nat) (l : List α), l.length - k ≤ n → HD lt l k → Heap lt (siftDown lt l k) ∧ (siftDown lt l k).Perm l := by
  intro n
  induction n with
  | zero =>
    intro k l hn h
    rw [siftDown_leaf (by omega)]
    refine ⟨fun i c d hi hc hd => ?_, List.Perm.refl _⟩
    have := (List.getElem?_eq_some_iff.1 hc).1
    exact h.1 i c d hi (by omega) hc hd
  | succ n ih =>
    intro k l hn h
    by_cases h0 : 2 * k + 1 < l.length
    · have hcl : child lt l k < l.length := by rcases child_or (lt := lt) l k with h1 | h1 <;> omega
      have hcp : (child lt l k - 1) / 2 = k := by rcases child_or (lt := lt) l k with h1 | h1 <;> omega
      have hc0 : 0 < child lt l k := by rcases child_or (lt := lt) l k with h1 | h1 <;> omega
      obtain ⟨a, ha⟩ : ∃ a, l[child lt l k]? = some a := ⟨_, List.getElem?_eq_getElem hcl⟩
      obtain ⟨b, hb⟩ : ∃ b, l[k]? = some b := ⟨_, List.getElem?_eq_getElem (by omega)⟩
      have hch := fun i c (hi : 0 < i) hp hc => child_le O (l := l) (k := k) (i := i) (c := c) hi hp hc ha
      cases hl : lt a b
      · rw [siftDown_stop ha hb hl]
        refine ⟨fun i c d hi hc hd => ?_, List.Perm.refl _⟩
        by_cases e : (i - 1) / 2 = k
        · rw [e, hb] at hd; cases hd
          exact O.ntrans hl (hch i c hi e hc)
        · exact h.1 i c d hi e hc hd
      · rw [siftDown_step h0 ha hb hl]
        have hg := sw_get ha hb
        generalize hm : child lt l k = m at *
        have := ih m (sw l m k) (by rw [sw_len]; omega) ⟨fun i c d hi hne hc hd => ?_, fun i c d hm0 hi hp hc hd => ?_⟩
        · exact ⟨this.1, this.2.trans (sw_perm _ _ _)⟩
        · rw [hg] at hc hd
          by_cases e : (i - 1) / 2 = k
          · rw [if_pos e] at hd; cases hd
            rw [if_neg (by omega)] at hc
            by_cases e1 : i = m
            · rw [if_pos e1] at hc; cases hc; exact O.asymm hl
            · rw [if_neg e1] at hc; exact hch i c hi e hc
          · rw [if_neg e, if_neg hne] at hd
            by_cases e1 : i = k
            · rw [if_pos e1] at hc; cases hc
              subst e1
              exact h.2 m a d hi hc0 hcp ha hd
            · rw [if_neg e1] at hc
              by_cases e2 : i = m
              · subst e2; exact absurd hcp e
              · rw [if_neg e2] at hc
                exact h.1 i c d hi e hc hd
        · rw [hg] at hc hd
          rw [if_neg (by omega), if_neg (by omega)] at hc
          rw [if_pos (by omega)] at hd
          cases hd
          exact h.1 i c a hi (by omega) hc (by rw [hp]; exact ha)
    · rw [siftDown_leaf h0]
      refine ⟨fun i c d hi hc hd => ?_, List.Perm.refl _⟩
      have := (List.getElem?_eq_some_iff.1 hc).1
      exact h.1 i c d hi (by omega) hc hd
theorem siftDown_len (n k : Nat) : ∀ l : List α, l.length - k ≤ n → (siftDown lt l k).length = l.length := by
  induction n generalizing k with
  | zero => intro l h; rw [siftDown_leaf (by omega)]
  | succ n ih =>
    intro l h
    rw [siftDown]
    split
    · split
      · split
        · rw [ih _ _ (by rw [sw_len]; rcases child_or (lt := lt) l k with h1 | h1 <;> omega), sw_len]
        · rfl
      · rfl
    · rfl

/-- What is left of a heap when its first goes: the last takes its place, and goes down. -/
def hrest (lt : α → α → Bool) : List α → List α
  | [] => []
  | m :: r => siftDown lt (((m :: r).set 0 ((m :: r).getLast (by simp))).take r.length) 0
theorem set_last_perm (m : α) (r : List α) : (((m :: r).set 0 ((m :: r).getLast (by simp))).take r.length).Perm r := by
  rcases List.eq_nil_or_concat r with rfl | ⟨mid, x, rfl⟩
  · simp
  · simp only [List.set_cons_zero]
    have e : (m :: (mid.concat x)).getLast (by simp) = x := by simp [List.concat_eq_append, List.getLast_cons]
    rw [e]
    have e2 : (x :: mid.concat x).take (mid.concat x).length = x :: mid := by
      simp [List.concat_eq_append]
    rw [e2, List.concat_eq_append]
    exact (List.perm_append_comm (l₁ := [x]) (l₂ := mid))
theorem hrest_heap (O : STO lt) {m : α} {r : List α} (h : Heap lt (m :: r)) : Heap lt (hrest lt (m :: r)) ∧ (hrest lt (m :: r)).Perm r := by
  have := siftDown_heap O _ 0 (((m :: r).set 0 ((m :: r).getLast (by simp))).take r.length) (Nat.le_refl _) ⟨fun i a b hi hne ha hb => ?_, fun i a b h0 => by omega⟩
  · exact ⟨this.1, this.2.trans (set_last_perm m r)⟩
  · rw [List.getElem?_take] at ha hb
    split at ha
    · split at hb
      · rw [List.getElem?_set_ne (by omega)] at ha hb
        exact h i a b hi ha hb
      · cases hb
    · cases ha
theorem hrest_len : ∀ l : List α, (hrest lt l).length = l.length - 1
  | [] => rfl
  | m :: r => by
    rw [hrest, siftDown_len _ _ _ (Nat.le_refl _)]
    simp
theorem heap_min (O : STO lt) {m : α} {r : List α} (h : Heap lt (m :: r)) : ∀ (i : Nat) (a : α), (m :: r)[i]? = some a → lt a m = false := by
  intro i
  induction i using Nat.strongRecOn with
  | _ i ih =>
  intro a ha
  by_cases h0 : i = 0
  · subst h0; simp at ha; subst ha; exact O.irr _
  · have hlt := (List.getElem?_eq_some_iff.1 ha).1
    obtain ⟨b, hb⟩ : ∃ b, (m :: r)[(i - 1) / 2]? = some b := ⟨_, List.getElem?_eq_getElem (by omega)⟩
    exact O.ntrans (ih _ (by omega) b hb) (h i a b (by omega) ha hb)

def hdrain (lt : α → α → Bool) : Nat → List α → List α
  | 0, _ => []
  | k + 1, l => match l with
    | [] => []
    | m :: r => m :: hdrain lt k (hrest lt (m :: r))
theorem hdrain_ok (O : STO lt) : ∀ (k : Nat) (l : List α), l.length ≤ k → Heap lt l → WS lt (hdrain lt k l) ∧ (hdrain lt k l).Perm l
  | 0, l, hk, _ => by
    have : l = [] := List.length_eq_zero_iff.1 (by omega)
    subst this; exact ⟨.nil, List.Perm.refl _⟩
  | k + 1, [], _, _ => ⟨.nil, List.Perm.refl _⟩
  | k + 1, m :: r, hk, h => by
    obtain ⟨h1, h2⟩ := hrest_heap O h
    obtain ⟨h3, h4⟩ := hdrain_ok O k (hrest lt (m :: r)) (by rw [hrest_len]; simpa using hk) h1
    refine ⟨List.pairwise_cons.2 ⟨fun z hz => ?_, h3⟩, (h4.trans h2).cons m⟩
    have hz' : z ∈ m :: r := List.mem_cons_of_mem _ ((h4.trans h2).mem_iff.1 hz)
    obtain ⟨i, hi⟩ := List.getElem?_of_mem hz'
    exact heap_min O h i z hi
theorem hdrain_eq (O : STO lt) {l : List α} (h : Heap lt l) {k : Nat} (hk : l.length ≤ k) : hdrain lt k l = srtW lt l := srtW_eq O (hdrain_ok O k l hk h).1 (hdrain_ok O k l hk h).2

/-- One heap out of a list. -/
theorem hdrain_le : ∀ (k : Nat) (l : List α), (hdrain lt k l).length ≤ k
  | 0, _ => Nat.le_refl _
  | k + 1, [] => Nat.zero_le _
  | k + 1, m :: r => by simp only [hdrain, List.length_cons]; have := hdrain_le k (hrest lt (m :: r)); omega
def hfill (lt : α → α → Bool) (l : List α) : List α := l.foldl (hpush lt) []
theorem hfill_snoc (l : List α) (x : α) : hfill lt (l ++ [x]) = hpush lt (hfill lt l) x := by simp [hfill]
theorem heap_nil : Heap lt ([] : List α) := fun i a b _ h => by simp at h
theorem foldl_hpush (O : STO lt) : ∀ (l acc : List α), Heap lt acc → Heap lt (l.foldl (hpush lt) acc) ∧ (l.foldl (hpush lt) acc).Perm (acc ++ l)
  | [], acc, h => ⟨h, by simp⟩
  | x :: l, acc, h => by
    obtain ⟨h1, h2⟩ := hpush_heap O h x
    obtain ⟨h3, h4⟩ := foldl_hpush O l _ h1
    refine ⟨h3, h4.trans ((h2.append_right l).trans ?_)⟩
    simp
theorem hfill_ok (O : STO lt) (l : List α) : Heap lt (hfill lt l) ∧ (hfill lt l).Perm l := foldl_hpush O l [] heap_nil
theorem hfill_len (l : List α) : (hfill lt l).length = l.length := by
  have : ∀ (l acc : List α), (l.foldl (hpush lt) acc).length = acc.length + l.length := by
    intro l
    induction l with
    | nil => simp
    | cons x l ih => intro acc; rw [List.foldl_cons, ih, hpush_len]; simp; omega
  rw [hfill, this]; simp
/-- All of a heap: the list in its order. -/
theorem hsort_eq (O : STO lt) (l : List α) : hdrain lt l.length (hfill lt l) = srtW lt l := by
  rw [hdrain_eq O (hfill_ok O l).1 (by rw [hfill_len]; exact Nat.le_refl _)]
  exact srtW_congr O (hfill_ok O l).2
theorem srtW_srtU [DecidableEq α] (O : STO lt) {l l' : List α} (hn : l'.Nodup) (hm : ∀ x, x ∈ l' ↔ x ∈ l) : srtW lt l' = srtU lt l := by
  refine srtU_eq O ?_ fun x => ((srtW_perm l').mem_iff).trans (hm x)
  have h1 := srtW_ws O l'
  have h2 : (srtW lt l').Nodup := (srtW_perm l').nodup_iff.2 hn
  exact (List.Pairwise.and h1 h2).imp fun {a b} h => O.lt_of h.1 h.2
end
end Go.Proofs.Ytcleiaibcfocdaa.Am
