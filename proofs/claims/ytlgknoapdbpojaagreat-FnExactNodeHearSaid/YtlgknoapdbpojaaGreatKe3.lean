/- Part 3 of the texts that the proof of LawFnExactNodeHear leans on, merged by program. -/
import Derived.Test.YtlgknoapdbpojaaGreatKe2
set_option linter.unusedVariables false
set_option linter.unusedSimpArgs false
set_option maxHeartbeats 4000000
set_option autoImplicit true
set_option relaxedAutoImplicit true
namespace Go.Proofs.YtlgknoapdbpojaaGreat.Am
open Go Go.RowKit
section
def c4p : List Int → List Int → Bool
 | a :: az, b :: bs => if a < b then true else if b < a then false else c4p az bs
 | _, _ => false
theorem a9j (a b : Int) (az bs : List Int) : c4p (a :: az) (b :: bs) = if a < b then true else if b < a then false else c4p az bs := rfl
theorem c4q : ∀ az, c4p az az = false
 | [] => rfl
 | a :: az => by rw [a9j, if_neg (by omega), if_neg (by omega)]; exact c4q az
theorem b6x : ∀ az bs cs, c4p az bs = true → c4p bs cs = true → c4p az cs = true
 | [], _, _, h, _ => by simp [c4p] at h
 | _ :: _, [], _, h, _ => by simp [c4p] at h
 | _ :: _, _ :: _, [], _, h => by simp [c4p] at h
 | a :: az, b :: bs, c :: cs, h, k => by
  rw [a9j] at *
  by_cases h1 : a < b <;> by_cases h2 : b < a <;> by_cases h3 : b < c <;> by_cases h4 : c < b <;> simp only [h1, h2, h3, h4, if_true, if_false] at h k <;> first | omega | (cases h; done) | (cases k; done) | (rw [if_pos (by omega)]; done) | (rw [if_neg (by omega), if_neg (by omega)]; exact b6x _ _ _ h k)
theorem c4r : ∀ az bs : List Int, az.length = bs.length → az ≠ bs → c4p az bs = true ∨ c4p bs az = true
 | [], [], _, h => absurd rfl h
 | [], _ :: _, h, _ => by simp at h
 | _ :: _, [], h, _ => by simp at h
 | a :: az, b :: bs, hl, hne => by
  rw [a9j, a9j]
  by_cases h1 : a < b
  ·exact .inl (if_pos h1)
  ·by_cases h2 : b < a
   ·exact .inr (if_pos h2)
   ·have e : a = b := by omega
    subst e
    rw [if_neg h1, if_neg h1, if_neg h1, if_neg h1]
    exact c4r az bs (by simpa using hl) (fun e => hne (by rw [e]))
structure STO {α : Type} (lt : α → α → Bool) : Prop where
 irr : ∀ a, lt a a = false
 trans : ∀ a b c, lt a b = true → lt b c = true → lt a c = true
 tot : ∀ a b, a ≠ b → lt a b = true ∨ lt b a = true
theorem STO.asymm (O : STO lt) (h : lt a b = true) : lt b a = false := by
 cases hb : lt b a
 ·rfl
 ·have := O.trans _ _ _ h hb; rw [O.irr] at this; cases this
theorem STO.eq (O : STO lt) (h : lt a b = false) (k : lt b a = false) : a = b := by
 apply Classical.byContradiction
 intro hne
 rcases O.tot a b hne with h1 | h1
 ·rw [h] at h1; cases h1
 ·rw [k] at h1; cases h1
theorem STO.ntrans (O : STO lt) (h : lt b a = false) (k : lt c b = false) : lt c a = false := by
 cases hc : lt c a
 ·rfl
 ·by_cases e : a = b
  ·subst e; rw [hc] at k; cases k
  ·rcases O.tot a b e with h1 | h1
   ·rw [O.trans _ _ _ hc h1] at k; cases k
   ·rw [h] at h1; cases h1
theorem STO.lt_of (O : STO lt) (h : lt b a = false) (hne : a ≠ b) : lt a b = true := by
 rcases O.tot a b hne with h1 | h1
 ·exact h1
 ·rw [h] at h1; cases h1
section
variable {α : Type} {lt : α → α → Bool}

def SS (lt : α → α → Bool) (l : List α) : Prop := l.Pairwise (fun a b => lt a b = true)

def WS (lt : α → α → Bool) (l : List α) : Prop := l.Pairwise (fun a b => lt b a = false)
theorem SS.uniq (O : STO lt) : ∀ {l l' : List α}, SS lt l → SS lt l' → (∀ x, x ∈ l ↔ x ∈ l') → l = l'
 | [], [], _, _, _ => rfl
 | [], b :: bs, _, _, h => absurd ((h b).2 (by simp)) (by simp)
 | a :: az, [], _, _, h => absurd ((h a).1 (by simp)) (by simp)
 | a :: az, b :: bs, h1, h2, h => by
  obtain ⟨h3, h4⟩ := List.pairwise_cons.1 h1
  obtain ⟨h5, h6⟩ := List.pairwise_cons.1 h2
  have e : a = b := by
   have hab := (h a).1 (by simp)
   have hba := (h b).2 (by simp)
   rcases List.mem_cons.1 hab with e | hm
   ·exact e
   ·rcases List.mem_cons.1 hba with e | hm'
    ·exact e.symm
    ·have := O.trans _ _ _ (h3 b hm') (h5 a hm); rw [O.irr] at this; cases this
  subst e
  rw [SS.uniq O h4 h6 (fun x => ?_)]
  have hx := h x
  simp only [List.mem_cons] at hx
  constructor
  ·intro hm
   rcases hx.1 (.inr hm) with e | e
   ·subst e; have := h3 x hm; rw [O.irr] at this; cases this
   ·exact e
  ·intro hm
   rcases hx.2 (.inr hm) with e | e
   ·subst e; have := h5 x hm; rw [O.irr] at this; cases this
   ·exact e
theorem WS.uniq (O : STO lt) : ∀ {l l' : List α}, WS lt l → WS lt l' → l.Perm l' → l = l'
 | [], l', _, _, h => (List.nil_perm.1 h).symm ▸ rfl
 | a :: az, [], _, _, h => absurd h.symm (by simp)
 | a :: az, b :: bs, h1, h2, h => by
  obtain ⟨h3, h4⟩ := List.pairwise_cons.1 h1
  obtain ⟨h5, h6⟩ := List.pairwise_cons.1 h2
  have e : a = b := by
   have hab : a ∈ b :: bs := h.mem_iff.1 (by simp)
   have hba : b ∈ a :: az := h.mem_iff.2 (by simp)
   rcases List.mem_cons.1 hab with e | hm
   ·exact e
   ·rcases List.mem_cons.1 hba with e | hm'
    ·exact e.symm
    ·exact O.eq (h5 a hm) (h3 b hm')
  subst e
  rw [WS.uniq O h4 h6 ((List.perm_cons a).1 h)]
theorem SS.ws (O : STO lt) (h : SS lt l) : WS lt l := List.Pairwise.imp (fun h => O.asymm h) h

def c7z [DecidableEq α] (lt : α → α → Bool) (x : α) : List α → List α
 | [] => [x]
 | y :: r => if x = y then y :: r else if lt x y then x :: y :: r else y :: c7z lt x r
def e3v [DecidableEq α] (lt : α → α → Bool) (l : List α) : List α := l.foldl (fun acc x => c7z lt x acc) []
theorem b8u [DecidableEq α] (x z : α) : ∀ l : List α, z ∈ c7z lt x l ↔ z = x ∨ z ∈ l
 | [] => by simp [c7z]
 | y :: r => by
  unfold c7z
  by_cases e : x = y
  ·subst e; rw [if_pos rfl]; simp only [List.mem_cons]; constructor
   ·exact .inr
   ·rintro (h | h | h)
    ·exact .inl h
    ·exact .inl h
    ·exact .inr h
  ·rw [if_neg e]
   by_cases h : lt x y = true
   ·rw [if_pos h]; simp
   ·rw [if_neg h]; simp only [List.mem_cons, b8u x z r]; constructor
    ·rintro (h | h | h)
     ·exact .inr (.inl h)
     ·exact .inl h
     ·exact .inr (.inr h)
    ·rintro (h | h | h)
     ·exact .inr (.inl h)
     ·exact .inl h
     ·exact .inr (.inr h)
theorem c9y [DecidableEq α] (O : STO lt) (x : α) : ∀ l : List α, SS lt l → SS lt (c7z lt x l)
 | [], _ => by simp [c7z, SS]
 | y :: r, h => by
  unfold c7z
  obtain ⟨h1, h2⟩ := List.pairwise_cons.1 h
  by_cases e : x = y
  ·rw [if_pos e]; exact h
  ·rw [if_neg e]
   by_cases hx : lt x y = true
   ·rw [if_pos hx]
    refine List.pairwise_cons.2 ⟨fun z hz => ?_, h⟩
    rcases List.mem_cons.1 hz with rfl | hz
    ·exact hx
    ·exact O.trans _ _ _ hx (h1 z hz)
   ·rw [if_neg hx]
    refine List.pairwise_cons.2 ⟨fun z hz => ?_, c9y O x r h2⟩
    rcases (b8u x z r).1 hz with rfl | hz
    ·exact O.lt_of (by simpa using hx) (Ne.symm e)
    ·exact h1 z hz
theorem b5q [DecidableEq α] (O : STO lt) : ∀ (l acc : List α), SS lt acc → SS lt (l.foldl (fun acc x => c7z lt x acc) acc)
 | [], _, h => h
 | x :: l, acc, h => b5q O l _ (c9y O x acc h)
theorem b3i [DecidableEq α] (z : α) : ∀ (l acc : List α), z ∈ l.foldl (fun acc x => c7z lt x acc) acc ↔ z ∈ acc ∨ z ∈ l
 | [], acc => by simp
 | x :: l, acc => by
  rw [List.foldl_cons, b3i z l, b8u]
  simp only [List.mem_cons]
  constructor
  ·rintro ((h | h) | h)
   ·exact .inr (.inl h)
   ·exact .inl h
   ·exact .inr (.inr h)
  ·rintro (h | h | h)
   ·exact .inl (.inr h)
   ·exact .inl (.inl h)
   ·exact .inr h
theorem d6h [DecidableEq α] (O : STO lt) (l : List α) : SS lt (e3v lt l) := b5q O l [] .nil
theorem b2w [DecidableEq α] (z : α) (l : List α) : z ∈ e3v lt l ↔ z ∈ l := by rw [e3v, b3i]; simp

theorem e3w [DecidableEq α] (O : STO lt) (h : SS lt s) (hm : ∀ x, x ∈ s ↔ x ∈ l) : s = e3v lt l :=
 SS.uniq O h (d6h O l) (fun x => (hm x).trans (b2w x l).symm)

def d1s (lt : α → α → Bool) (x : α) : List α → List α
 | [] => [x]
 | y :: r => if lt x y then x :: y :: r else y :: d1s lt x r
def d6i (lt : α → α → Bool) (l : List α) : List α := l.foldl (fun acc x => d1s lt x acc) []
theorem c0b (x : α) : ∀ l : List α, (d1s lt x l).Perm (x :: l)
 | [] => List.Perm.refl _
 | y :: r => by
  unfold d1s
  split
  ·exact List.Perm.refl _
  ·exact ((c0b x r).cons y).trans (List.Perm.swap x y r)
theorem d6j (O : STO lt) (x : α) : ∀ l : List α, WS lt l → WS lt (d1s lt x l)
 | [], _ => by simp [d1s, WS]
 | y :: r, h => by
  unfold d1s
  obtain ⟨h1, h2⟩ := List.pairwise_cons.1 h
  split
  ·rename_i hx
   refine List.pairwise_cons.2 ⟨fun z hz => ?_, h⟩
   rcases List.mem_cons.1 hz with rfl | hz
   ·exact O.asymm hx
   ·exact O.ntrans (O.asymm hx) (h1 z hz)
  ·rename_i hx
   refine List.pairwise_cons.2 ⟨fun z hz => ?_, d6j O x r h2⟩
   rcases List.mem_cons.1 ((c0b x r).mem_iff.1 hz) with rfl | hz
   ·simpa using hx
   ·exact h1 z hz
theorem b5r (O : STO lt) : ∀ (l acc : List α), WS lt acc → WS lt (l.foldl (fun acc x => d1s lt x acc) acc)
 | [], _, h => h
 | x :: l, acc, h => b5r O l _ (d6j O x acc h)
theorem b1w : ∀ (l acc : List α), (l.foldl (fun acc x => d1s lt x acc) acc).Perm (acc ++ l)
 | [], acc => by simp
 | x :: l, acc => (b1w l _).trans (((c0b x acc).append_right l).trans (by
   have := List.perm_middle (a := x) (l₁ := acc) (l₂ := l)
   exact this.symm))
theorem c4s (O : STO lt) (l : List α) : WS lt (d6i lt l) := b5r O l [] .nil
theorem b1x (l : List α) : (d6i lt l).Perm l := b1w l []
theorem d6k (O : STO lt) (h : WS lt s) (hp : s.Perm l) : s = d6i lt l := WS.uniq O h (c4s O l) (hp.trans (b1x l).symm)
theorem d3i (O : STO lt) (h : l.Perm l') : d6i lt l = d6i lt l' := d6k O (c4s O l) ((b1x l).trans h)
end
end
section
section
variable {α : Type} {lt : α → α → Bool}

def sw (l : List α) (i j : Nat) : List α := match l[i]?, l[j]? with
 | some a, some b => (l.set i b).set j a
 | _, _ => l
theorem d6l (hi : l[i]? = some a) (hj : l[j]? = some b) : sw l i j = (l.set i b).set j a := by simp [sw, hi, hj]
theorem a8c (l : List α) (i j : Nat) : (sw l i j).length = l.length := by
 unfold sw; split <;> simp
theorem e1t (hi : l[i]? = some a) (hj : l[j]? = some b) (k : Nat) : (sw l i j)[k]? = if k = j then some a else if k = i then some b else l[k]? := by
 have h1 := (List.getElem?_eq_some_iff.1 hi).1
 have h2 := (List.getElem?_eq_some_iff.1 hj).1
 rw [d6l hi hj, List.getElem?_set, List.getElem?_set]
 by_cases e : k = j
 ·subst e; simp [h2]
 ·rw [if_neg (Ne.symm e), if_neg e]
  by_cases e2 : k = i
  ·subst e2; simp [h1]
  ·rw [if_neg (Ne.symm e2), if_neg e2]
theorem d6m (l : List α) (i j : Nat) : (sw l i j).Perm l := by
 unfold sw
 split
 ·rename_i a b hi hj
  obtain ⟨h1, e1⟩ := List.getElem?_eq_some_iff.1 hi
  obtain ⟨h2, e2⟩ := List.getElem?_eq_some_iff.1 hj
  have := Array.swap_perm (xs := l.toArray) (i := i) (j := j) (by simpa using h1) (by simpa using h2)
  have e : (l.toArray.swap i j (by simpa using h1) (by simpa using h2)).toList = (l.set i b).set j a := by
   simp [Array.swap, e1, e2]
  have := this.toList
  rw [e] at this
  simpa using this
 ·exact List.Perm.refl _
def d3j (lt : α → α → Bool) (l : List α) : Prop := ∀ i a b, 0 < i → l[i]? = some a → l[(i - 1) / 2]? = some b → lt a b = false

def a7d (lt : α → α → Bool) (l : List α) (k : Nat) : List α :=
 if h : 0 < k then match l[k]?, l[(k - 1) / 2]? with
  | some a, some b => if lt a b then a7d lt (sw l k ((k - 1) / 2)) ((k - 1) / 2) else l
  | _, _ => l
 else l
termination_by k
decreasing_by omega
theorem b4j (h : 0 < k) (ha : l[k]? = some a) (hb : l[(k - 1) / 2]? = some b) (hl : lt a b = true) : a7d lt l k = a7d lt (sw l k ((k - 1) / 2)) ((k - 1) / 2) := by
 rw [a7d, dif_pos h, ha, hb]; simp [hl]
theorem b4k (ha : l[k]? = some a) (hb : l[(k - 1) / 2]? = some b) (hl : lt a b = false) : a7d lt l k = l := by
 rw [a7d]; split
 ·rw [ha, hb]; simp [hl]
 ·rfl
theorem siftUp_zero : a7d lt l 0 = l := by rw [a7d]; simp
def HU (lt : α → α → Bool) (l : List α) (k : Nat) : Prop :=
 (∀ i a b, 0 < i → i ≠ k → l[i]? = some a → l[(i - 1) / 2]? = some b → lt a b = false) ∧
 (∀ i a b, 0 < k → 0 < i → (i - 1) / 2 = k → l[i]? = some a → l[(k - 1) / 2]? = some b → lt a b = false)
theorem c9z (O : STO lt) (k : Nat) : ∀ (l : List α), k < l.length → HU lt l k → d3j lt (a7d lt l k) ∧ (a7d lt l k).Perm l := by
 induction k using Nat.strongRecOn with
 | _ k ih =>
 intro l hk h
 by_cases h0 : 0 < k
 ·obtain ⟨a, ha⟩ : ∃ a, l[k]? = some a := ⟨_, List.getElem?_eq_getElem hk⟩
  obtain ⟨b, hb⟩ : ∃ b, l[(k - 1) / 2]? = some b := ⟨_, List.getElem?_eq_getElem (by omega)⟩
  cases hl : lt a b
  ·rw [b4k ha hb hl]
   refine ⟨fun i c d hi hc hd => ?_, List.Perm.refl _⟩
   by_cases e : i = k
   ·subst e; rw [ha] at hc; rw [hb] at hd; cases hc; cases hd; exact hl
   ·exact h.1 i c d hi e hc hd
  ·rw [b4j h0 ha hb hl]
   have hg := e1t ha hb
   have := ih ((k - 1) / 2) (by omega) (sw l k ((k - 1) / 2)) (by rw [a8c]; omega) ⟨fun i c d hi hne hc hd => ?_, fun i c d hu hi hp hc hd => ?_⟩
   ·exact ⟨this.1, this.2.trans (d6m _ _ _)⟩
   ·rw [hg, if_neg hne] at hc
    rw [hg] at hd
    by_cases e : i = k
    ·subst e
     rw [if_pos rfl] at hc
     rw [if_pos rfl] at hd
     cases hc; cases hd
     exact O.asymm hl
    ·rw [if_neg e] at hc
     by_cases e1 : (i - 1) / 2 = (k - 1) / 2
     ·rw [if_pos e1] at hd
      cases hd
      have h1 := h.1 i c b hi e hc (by rw [e1]; exact hb)
      cases hc' : lt c a
      ·rfl
      ·rw [O.trans _ _ _ hc' hl] at h1; cases h1
     ·rw [if_neg e1] at hd
      by_cases e2 : (i - 1) / 2 = k
      ·rw [if_pos e2] at hd
       cases hd
       exact h.2 i c b h0 hi e2 hc hb
      ·rw [if_neg e2] at hd
       exact h.1 i c d hi e hc hd
   ·have hd' : l[((k - 1) / 2 - 1) / 2]? = some d := by
     rw [hg, if_neg (by omega), if_neg (by omega)] at hd; exact hd
    have hbd := h.1 ((k - 1) / 2) b d hu (by omega) hb hd'
    rw [hg, if_neg (by omega)] at hc
    by_cases e : i = k
    ·rw [if_pos e] at hc; cases hc; exact hbd
    ·rw [if_neg e] at hc
     exact O.ntrans hbd (h.1 i c b hi e hc (by rw [hp]; exact hb))
 ·have : k = 0 := by omega
  subst this
  rw [siftUp_zero]
  exact ⟨fun i c d hi hc hd => h.1 i c d hi (by omega) hc hd, List.Perm.refl _⟩
def b5s (lt : α → α → Bool) (l : List α) (x : α) : List α := a7d lt (l ++ [x]) l.length
theorem d3k (O : STO lt) (h : d3j lt l) (x : α) : d3j lt (b5s lt l x) ∧ (b5s lt l x).Perm (l ++ [x]) := by
 refine c9z O _ _ (by simp) ⟨fun i a b hi hne ha hb => ?_, fun i a b _ hi hp ha hb => ?_⟩
 ·have hlt := (List.getElem?_eq_some_iff.1 ha).1
  simp only [List.length_append, List.length_cons, List.length_nil] at hlt
  rw [List.getElem?_append_left (by omega)] at ha
  rw [List.getElem?_append_left (by omega)] at hb
  exact h i a b hi ha hb
 ·have hlt := (List.getElem?_eq_some_iff.1 ha).1
  simp only [List.length_append, List.length_cons, List.length_nil] at hlt
  omega
theorem d3l (k : Nat) : ∀ l : List α, (a7d lt l k).length = l.length := by
 induction k using Nat.strongRecOn with
 | _ k ih =>
 intro l
 rw [a7d]
 split
 ·split
  ·split
   ·rw [ih _ (by omega), a8c]
   ·rfl
  ·rfl
 ·rfl
theorem d6n (l : List α) (x : α) : (b5s lt l x).length = l.length + 1 := by rw [b5s, d3l]; simp

def a2c (lt : α → α → Bool) (l : List α) (k : Nat) : Nat := match l[2 * k + 2]?, l[2 * k + 1]? with
 | some c, some d => if lt c d then 2 * k + 2 else 2 * k + 1
 | _, _ => 2 * k + 1
theorem a9y (l : List α) (k : Nat) : a2c lt l k = 2 * k + 1 ∨ (a2c lt l k = 2 * k + 2 ∧ 2 * k + 2 < l.length) := by
 unfold a2c
 split
 ·rename_i c d h1 h2
  split
  ·exact .inr ⟨rfl, (List.getElem?_eq_some_iff.1 h1).1⟩
  ·exact .inl rfl
 ·exact .inl rfl
theorem d6o (hc : l[2 * k + 2]? = some c) (hd : l[2 * k + 1]? = some d) (h : lt c d = true) : a2c lt l k = 2 * k + 2 := by
 unfold a2c; rw [hc, hd]; simp [h]
theorem d6p (hc : l[2 * k + 2]? = some c) (hd : l[2 * k + 1]? = some d) (h : lt c d = false) : a2c lt l k = 2 * k + 1 := by
 unfold a2c; rw [hc, hd]; simp [h]
theorem d6q (h : ¬ 2 * k + 2 < l.length) : a2c lt l k = 2 * k + 1 := by
 unfold a2c; rw [List.getElem?_eq_none (by omega)]

def a0r (lt : α → α → Bool) (l : List α) (k : Nat) : List α :=
 if h : 2 * k + 1 < l.length then match l[a2c lt l k]?, l[k]? with
  | some a, some b => if lt a b then a0r lt (sw l (a2c lt l k) k) (a2c lt l k) else l
  | _, _ => l
 else l
termination_by l.length - k
decreasing_by
 rw [a8c]
 rcases a9y (lt := lt) l k with h1 | h1 <;> omega
theorem a4n (h : ¬ 2 * k + 1 < l.length) : a0r lt l k = l := by rw [a0r, dif_neg h]
theorem a9z (h : 2 * k + 1 < l.length) (ha : l[a2c lt l k]? = some a) (hb : l[k]? = some b) (hl : lt a b = true) : a0r lt l k = a0r lt (sw l (a2c lt l k) k) (a2c lt l k) := by
 rw [a0r, dif_pos h, ha, hb]; simp [hl]
theorem b0a (ha : l[a2c lt l k]? = some a) (hb : l[k]? = some b) (hl : lt a b = false) : a0r lt l k = l := by
 rw [a0r]; split
 ·rw [ha, hb]; simp [hl]
 ·rfl
theorem d9q (O : STO lt) (hi : 0 < i) (hp : (i - 1) / 2 = k) (hc : l[i]? = some c) (hd : l[a2c lt l k]? = some d) : lt c d = false := by
 have hlt := (List.getElem?_eq_some_iff.1 hc).1
 unfold a2c at hd
 split at hd
 ·rename_i x y h1 h2
  split at hd
  ·rename_i hxy
   rw [h1] at hd; cases hd
   rcases (show i = 2 * k + 1 ∨ i = 2 * k + 2 by omega) with e | e
   ·subst e; rw [h2] at hc; cases hc; exact O.asymm hxy
   ·subst e; rw [h1] at hc; cases hc; exact O.irr _
  ·rename_i hxy
   rw [h2] at hd; cases hd
   rcases (show i = 2 * k + 1 ∨ i = 2 * k + 2 by omega) with e | e
   ·subst e; rw [h2] at hc; cases hc; exact O.irr _
   ·subst e; rw [h1] at hc; cases hc; simpa using hxy
 ·rename_i hno
  rcases (show i = 2 * k + 1 ∨ i = 2 * k + 2 by omega) with e | e
  ·subst e; rw [hc] at hd; cases hd; exact O.irr _
  ·subst e; exact absurd hd (fun h => hno c d hc h)
def HD (lt : α → α → Bool) (l : List α) (k : Nat) : Prop :=
 (∀ i a b, 0 < i → (i - 1) / 2 ≠ k → l[i]? = some a → l[(i - 1) / 2]? = some b → lt a b = false) ∧
 (∀ i a b, 0 < k → 0 < i → (i - 1) / 2 = k → l[i]? = some a → l[(k - 1) / 2]? = some b → lt a b = false)
theorem c4t (O : STO lt) : ∀ (n k : Nat) (l : List α), l.length - k ≤ n → HD lt l k → d3j lt (a0r lt l k) ∧ (a0r lt l k).Perm l := by
 intro n
 induction n with
 | zero =>
  intro k l hn h
  rw [a4n (by omega)]
  refine ⟨fun i c d hi hc hd => ?_, List.Perm.refl _⟩
  have := (List.getElem?_eq_some_iff.1 hc).1
  exact h.1 i c d hi (by omega) hc hd
 | succ n ih =>
  intro k l hn h
  by_cases h0 : 2 * k + 1 < l.length
  ·have hcl : a2c lt l k < l.length := by rcases a9y (lt := lt) l k with h1 | h1 <;> omega
   have hcp : (a2c lt l k - 1) / 2 = k := by rcases a9y (lt := lt) l k with h1 | h1 <;> omega
   have hc0 : 0 < a2c lt l k := by rcases a9y (lt := lt) l k with h1 | h1 <;> omega
   obtain ⟨a, ha⟩ : ∃ a, l[a2c lt l k]? = some a := ⟨_, List.getElem?_eq_getElem hcl⟩
   obtain ⟨b, hb⟩ : ∃ b, l[k]? = some b := ⟨_, List.getElem?_eq_getElem (by omega)⟩
   have hch := fun i c (hi : 0 < i) hp hc => d9q O (l := l) (k := k) (i := i) (c := c) hi hp hc ha
   cases hl : lt a b
   ·rw [b0a ha hb hl]
    refine ⟨fun i c d hi hc hd => ?_, List.Perm.refl _⟩
    by_cases e : (i - 1) / 2 = k
    ·rw [e, hb] at hd; cases hd
     exact O.ntrans hl (hch i c hi e hc)
    ·exact h.1 i c d hi e hc hd
   ·rw [a9z h0 ha hb hl]
    have hg := e1t ha hb
    generalize hm : a2c lt l k = m at *
    have := ih m (sw l m k) (by rw [a8c]; omega) ⟨fun i c d hi hne hc hd => ?_, fun i c d hm0 hi hp hc hd => ?_⟩
    ·exact ⟨this.1, this.2.trans (d6m _ _ _)⟩
    ·rw [hg] at hc hd
     by_cases e : (i - 1) / 2 = k
     ·rw [if_pos e] at hd; cases hd
      rw [if_neg (by omega)] at hc
      by_cases e1 : i = m
      ·rw [if_pos e1] at hc; cases hc; exact O.asymm hl
      ·rw [if_neg e1] at hc; exact hch i c hi e hc
     ·rw [if_neg e, if_neg hne] at hd
      by_cases e1 : i = k
      ·rw [if_pos e1] at hc; cases hc
       subst e1
       exact h.2 m a d hi hc0 hcp ha hd
      ·rw [if_neg e1] at hc
       by_cases e2 : i = m
       ·subst e2; exact absurd hcp e
       ·rw [if_neg e2] at hc
        exact h.1 i c d hi e hc hd
    ·rw [hg] at hc hd
     rw [if_neg (by omega), if_neg (by omega)] at hc
     rw [if_pos (by omega)] at hd
     cases hd
     exact h.1 i c a hi (by omega) hc (by rw [hp]; exact ha)
  ·rw [a4n h0]
   refine ⟨fun i c d hi hc hd => ?_, List.Perm.refl _⟩
   have := (List.getElem?_eq_some_iff.1 hc).1
   exact h.1 i c d hi (by omega) hc hd
theorem c8a (n k : Nat) : ∀ l : List α, l.length - k ≤ n → (a0r lt l k).length = l.length := by
 induction n generalizing k with
 | zero => intro l h; rw [a4n (by omega)]
 | succ n ih =>
  intro l h
  rw [a0r]
  split
  ·split
   ·split
    ·rw [ih _ _ (by rw [a8c]; rcases a9y (lt := lt) l k with h1 | h1 <;> omega), a8c]
    ·rfl
   ·rfl
  ·rfl

def b0c (lt : α → α → Bool) : List α → List α
 | [] => []
 | m :: r => a0r lt (((m :: r).set 0 ((m :: r).getLast (by simp))).take r.length) 0
theorem c4u (m : α) (r : List α) : (((m :: r).set 0 ((m :: r).getLast (by simp))).take r.length).Perm r := by
 rcases List.eq_nil_or_concat r with rfl | ⟨mid, x, rfl⟩
 ·simp
 ·simp only [List.set_cons_zero]
  have e : (m :: (mid.concat x)).getLast (by simp) = x := by simp [List.concat_eq_append, List.getLast_cons]
  rw [e]
  have e2 : (x :: mid.concat x).take (mid.concat x).length = x :: mid := by
   simp [List.concat_eq_append]
  rw [e2, List.concat_eq_append]
  exact (List.perm_append_comm (l₁ := [x]) (l₂ := mid))
theorem d3m (O : STO lt) (h : d3j lt (m :: r)) : d3j lt (b0c lt (m :: r)) ∧ (b0c lt (m :: r)).Perm r := by
 have := c4t O _ 0 (((m :: r).set 0 ((m :: r).getLast (by simp))).take r.length) (Nat.le_refl _) ⟨fun i a b hi hne ha hb => ?_, fun i a b h0 => by omega⟩
 ·exact ⟨this.1, this.2.trans (c4u m r)⟩
 ·rw [List.getElem?_take] at ha hb
  split at ha
  ·split at hb
   ·rw [List.getElem?_set_ne (by omega)] at ha hb
    exact h i a b hi ha hb
   ·cases hb
  ·cases ha
theorem a7e : ∀ l : List α, (b0c lt l).length = l.length - 1
 | [] => rfl
 | m :: r => by
  rw [b0c, c8a _ _ _ (Nat.le_refl _)]
  simp
theorem d9r (O : STO lt) (h : d3j lt (m :: r)) : ∀ (i : Nat) (a : α), (m :: r)[i]? = some a → lt a m = false := by
 intro i
 induction i using Nat.strongRecOn with
 | _ i ih =>
 intro a ha
 by_cases h0 : i = 0
 ·subst h0; simp at ha; subst ha; exact O.irr _
 ·have hlt := (List.getElem?_eq_some_iff.1 ha).1
  obtain ⟨b, hb⟩ : ∃ b, (m :: r)[(i - 1) / 2]? = some b := ⟨_, List.getElem?_eq_getElem (by omega)⟩
  exact O.ntrans (ih _ (by omega) b hb) (h i a b (by omega) ha hb)
def a3r (lt : α → α → Bool) : Nat → List α → List α
 | 0, _ => []
 | k + 1, l => match l with
  | [] => []
  | m :: r => m :: a3r lt k (b0c lt (m :: r))
theorem c0d (O : STO lt) : ∀ (k : Nat) (l : List α), l.length ≤ k → d3j lt l → WS lt (a3r lt k l) ∧ (a3r lt k l).Perm l
 | 0, l, hk, _ => by
  have : l = [] := List.length_eq_zero_iff.1 (by omega)
  subst this; exact ⟨.nil, List.Perm.refl _⟩
 | k + 1, [], _, _ => ⟨.nil, List.Perm.refl _⟩
 | k + 1, m :: r, hk, h => by
  obtain ⟨h1, h2⟩ := d3m O h
  obtain ⟨h3, h4⟩ := c0d O k (b0c lt (m :: r)) (by rw [a7e]; simpa using hk) h1
  refine ⟨List.pairwise_cons.2 ⟨fun z hz => ?_, h3⟩, (h4.trans h2).cons m⟩
  have hz' : z ∈ m :: r := List.mem_cons_of_mem _ ((h4.trans h2).mem_iff.1 hz)
  obtain ⟨i, hi⟩ := List.getElem?_of_mem hz'
  exact d9r O h i z hi
theorem d6r (O : STO lt) (h : d3j lt l) (hk : l.length ≤ k) : a3r lt k l = d6i lt l := d6k O (c0d O k l hk h).1 (c0d O k l hk h).2

theorem c0e : ∀ (k : Nat) (l : List α), (a3r lt k l).length ≤ k
 | 0, _ => Nat.le_refl _
 | k + 1, [] => Nat.zero_le _
 | k + 1, m :: r => by simp only [a3r, List.length_cons]; have := c0e k (b0c lt (m :: r)); omega
def b0d (lt : α → α → Bool) (l : List α) : List α := l.foldl (b5s lt) []
theorem c3h (l : List α) (x : α) : b0d lt (l ++ [x]) = b5s lt (b0d lt l) x := by simp [b0d]
theorem d9s : d3j lt ([] : List α) := fun i a b _ h => by simp at h
theorem c0f (O : STO lt) : ∀ (l acc : List α), d3j lt acc → d3j lt (l.foldl (b5s lt) acc) ∧ (l.foldl (b5s lt) acc).Perm (acc ++ l)
 | [], acc, h => ⟨h, by simp⟩
 | x :: l, acc, h => by
  obtain ⟨h1, h2⟩ := d3k O h x
  obtain ⟨h3, h4⟩ := c0f O l _ h1
  refine ⟨h3, h4.trans ((h2.append_right l).trans ?_)⟩
  simp
theorem d1t (O : STO lt) (l : List α) : d3j lt (b0d lt l) ∧ (b0d lt l).Perm l := c0f O l [] d9s
theorem a7f (l : List α) : (b0d lt l).length = l.length := by
 have : ∀ (l acc : List α), (l.foldl (b5s lt) acc).length = acc.length + l.length := by
  intro l
  induction l with
  | nil => simp
  | cons x l ih => intro acc; rw [List.foldl_cons, ih, d6n]; simp; omega
 rw [b0d, this]; simp

theorem d1u (O : STO lt) (l : List α) : a3r lt l.length (b0d lt l) = d6i lt l := by
 rw [d6r O (d1t O l).1 (by rw [a7f]; exact Nat.le_refl _)]
 exact d3i O (d1t O l).2
theorem d6s [DecidableEq α] (O : STO lt) (hn : l'.Nodup) (hm : ∀ x, x ∈ l' ↔ x ∈ l) : d6i lt l' = e3v lt l := by
 refine e3w O ?_ fun x => ((b1x l').mem_iff).trans (hm x)
 have h1 := c4s O l'
 have h2 : (d6i lt l').Nodup := (b1x l').nodup_iff.2 hn
 exact (List.Pairwise.and h1 h2).imp fun {a b} h => O.lt_of h.1 h.2
end
end
section
structure Ev where
 time : Int
 to : Int
 from' : Int
 count : Int
 n : Int
 kind : Int
 arg : Int
 deriving DecidableEq, Inhabited
structure Ou where
 time : Int
 proc : Int
 count : Int
 n : Int
 value : Int
 deriving DecidableEq, Inhabited
structure St where
 x : Int
 y : Int
 count : Int
 deriving DecidableEq, Inhabited
structure Pa where
 ev : Ev
 after : St
 sends : List Ev
 outs : List Ou
 deriving DecidableEq, Inhabited
structure La where
 proc : Int
 base : St
 done : List Pa
 deriving DecidableEq, Inhabited
structure Vi where
 inc : Int
 version : Int
 events : List Ev
 deriving DecidableEq, Inhabited
structure Nd where
 id : Int
 up : Bool
 inc : Int
 g : Int
 lanes : List La
 kept : List Ev
 outs : List Ou
 led : Int
 version : Int
 views : List Vi
 known : List Int
 round : Int
 low : Int
 deriving DecidableEq, Inhabited
def evN (e : Ev) : List Int := [e.time, e.to, e.from', e.count, e.n, e.kind, e.arg]
def ouL (o : Ou) : List Int := [o.time, o.proc, o.count, o.n, o.value]
def stL (s : St) : List Int := [s.x, s.y, s.count]
theorem d6t (h : evN a = evN b) : a = b := by
 cases a; cases b; simp [evN] at h; simp [h]
theorem e3x (h : ouL a = ouL b) : a = b := by
 cases a; cases b; simp [ouL] at h; simp [h]
def d8k : List Int → List Int → Int
 | a :: az, b :: bs => if a < b then -1 else if b < a then 1 else d8k az bs
 | [], [] => 0
 | [], _ :: _ => -1
 | _ :: _, [] => 1
theorem c8b (a b : Int) (az bs : List Int) : d8k (a :: az) (b :: bs) = if a < b then -1 else if b < a then 1 else d8k az bs := rfl
theorem c4v : ∀ az bs : List Int, az.length = bs.length → decide (d8k az bs < 0) = c4p az bs
 | [], [], _ => rfl
 | [], _ :: _, h => by simp at h
 | _ :: _, [], h => by simp at h
 | a :: az, b :: bs, h => by
  rw [c8b, a9j]
  by_cases h1 : a < b
  ·rw [if_pos h1, if_pos h1]; rfl
  ·rw [if_neg h1, if_neg h1]
   by_cases h2 : b < a
   ·rw [if_pos h2, if_pos h2]; rfl
   ·rw [if_neg h2, if_neg h2]; exact c4v az bs (by simpa using h)
theorem c8d {az bs : List Int} {i : Nat} {a b : Int} (ha : az[i]? = some a) (hb : bs[i]? = some b) : d8k (az.drop i) (bs.drop i) = if a < b then -1 else if b < a then 1 else d8k (az.drop (i + 1)) (bs.drop (i + 1)) := by
 obtain ⟨h1, e1⟩ := List.getElem?_eq_some_iff.1 ha
 obtain ⟨h2, e2⟩ := List.getElem?_eq_some_iff.1 hb
 rw [List.drop_eq_getElem_cons h1, List.drop_eq_getElem_cons h2, e1, e2, c8b]
def a1i (a b : Ev) : Bool := c4p (evN a) (evN b)
def a4e (a b : Ou) : Bool := c4p (ouL a) (ouL b)
theorem c8e : STO a1i := ⟨fun a => c4q _, fun a b c => b6x _ _ _, fun a b h => c4r _ _ rfl (fun e => h (d6t e))⟩
theorem e3y : STO a4e := ⟨fun a => c4q _, fun a b c => b6x _ _ _, fun a b h => c4r _ _ rfl (fun e => h (e3x e))⟩

def w0w (l : List Ev) : List Ev := e3v a1i l
def a2f (l : List Ou) : List Ou := d6i a4e l

def w9w : List Ev → List Ev := List.foldl (fun acc e => if e ∈ acc then acc else acc ++ [e]) []
theorem c3i (x : Ev) : ∀ (l acc : List Ev), x ∈ l.foldl (fun acc e => if e ∈ acc then acc else acc ++ [e]) acc ↔ x ∈ acc ∨ x ∈ l
 | [], acc => by simp
 | e :: l, acc => by
  rw [List.foldl_cons, c3i x l]
  split
  ·rename_i h
   simp only [List.mem_cons]
   constructor
   ·rintro (h' | h')
    ·exact .inl h'
    ·exact .inr (.inr h')
   ·rintro (h' | h' | h')
    ·exact .inl h'
    ·subst h'; exact .inl h
    ·exact .inr h'
  ·simp only [List.mem_append, List.mem_cons, List.not_mem_nil, or_false, or_assoc]
theorem b0u : ∀ (l acc : List Ev), acc.Nodup → (l.foldl (fun acc e => if e ∈ acc then acc else acc ++ [e]) acc).Nodup
 | [], acc, h => h
 | e :: l, acc, h => by
  rw [List.foldl_cons]
  refine b0u l _ ?_
  split
  ·exact h
  ·rename_i hne
   exact List.nodup_append.2 ⟨h, by simp, fun a ha b hb => by
    rw [List.mem_singleton] at hb; subst hb; rintro rfl; exact hne ha⟩
theorem a0y (x : Ev) (l : List Ev) : x ∈ w9w l ↔ x ∈ l := by rw [w9w, c3i]; simp
theorem b7x (l : List Ev) : (w9w l).Nodup := b0u l [] .nil
theorem b0e (l : List Ev) (e : Ev) : w9w (l ++ [e]) = if e ∈ w9w l then w9w l else w9w l ++ [e] := by
 simp only [w9w, List.foldl_append, List.foldl_cons, List.foldl_nil]
 rfl
theorem b6y (l : List Ev) : (w9w l).length ≤ l.length := by
 have : ∀ (l acc : List Ev), (l.foldl (fun acc e => if e ∈ acc then acc else acc ++ [e]) acc).length ≤ acc.length + l.length := by
  intro l
  induction l with
  | nil => simp
  | cons e l ih =>
   intro acc
   rw [List.foldl_cons]
   refine Nat.le_trans (ih _) ?_
   split <;> simp <;> omega
 have := this l []
 simpa [w9w] using this

theorem c0g (l : List Ev) : a3r a1i (w9w l).length (b0d a1i (w9w l)) = w0w l := by
 rw [d1u c8e, d6s c8e (b7x l) (fun x => a0y x l)]; rfl
def q0q (p : Int) : Int := if 0 ≤ p ∧ p ≤ 3 then p.tmod 3 else -1
def a0j (id : Int) : Nat → List Int
 | 0 => []
 | k + 1 => if q0q (k : Int) = id then a0j id k ++ [(k : Int)] else a0j id k
theorem a9k (id : Int) (k : Nat) : a0j id (k + 1) = if q0q (k : Int) = id then a0j id k ++ [(k : Int)] else a0j id k := rfl
theorem a7g (id : Int) : ∀ k, (a0j id k).length ≤ k
 | 0 => Nat.le_refl _
 | k + 1 => by
  have := a7g id k
  rw [a9k]; split <;> simp <;> omega
def e3z (p : Int) : La := ⟨p, ⟨0, 0, 0⟩, []⟩
def bp (l : La) : St × Int := (l.base, l.proc)
def e6l (a b : Nd) : Prop := a.id = b.id ∧ a.inc = b.inc ∧ a.g = b.g ∧ a.led = b.led ∧ a.kept = b.kept ∧ a.outs = b.outs ∧ a.lanes.map bp = b.lanes.map bp
instance (a b : Nd) : Decidable (e6l a b) := by unfold e6l; infer_instance
theorem e6m {a b r : Int} (h : ¬ (if a < b then -1 else if b < a then 1 else 0 : Int) = 0) : (if a < b then -1 else if b < a then 1 else r) = (if a < b then -1 else if b < a then 1 else 0 : Int) := by
 split
 ·rfl
 ·split
  ·rfl
  ·rename_i h1 h2; rw [if_neg h1, if_neg h2] at h; exact absurd rfl h
theorem e6n {a b r : Int} (h : (if a < b then -1 else if b < a then 1 else 0 : Int) = 0) : (if a < b then -1 else if b < a then 1 else r) = r := by
 split at h
 ·omega
 ·split at h
  ·omega
  ·rename_i h1 h2; rw [if_neg h1, if_neg h2]
def nd0 : Nd := ⟨0, false, 0, 0, [], [], [], 0, 0, [], [], 0, 0⟩
def vi0 : Vi := ⟨0, 0, []⟩
def b1y (l : La) : La := ⟨l.proc, l.base, []⟩
end
section
section
variable {α : Type} (sz : α → Nat) (mk : Nat → α → α)
def szs : List α → Nat
 | [] => 0
 | p :: r => sz p + szs r
def mks : Nat → List α → List α
 | _, [] => []
 | k, p :: r => mk k p :: mks (k + sz p) r
theorem a4o (k : Nat) (l : List α) : (mks sz mk k l).length = l.length := by
 induction l generalizing k with
 | nil => rfl
 | cons p r ih => simp [mks, ih]
variable {i : Nat}
theorem r6r {l : List α} {p : α} (h : l[i]? = some p) : szs sz (l.take (i + 1)) = szs sz (l.take i) + sz p := by
 induction l generalizing i with
 | nil => simp at h
 | cons a r ih =>
  cases i with
  | zero => simp at h; subst h; simp [szs]
  | succ i => simp at h; simp only [List.take_succ_cons, szs, ih h]; omega
theorem d0a (l : List α) (i : Nat) : szs sz (l.take i) ≤ szs sz l := by
 induction l generalizing i with
 | nil => simp
 | cons a r ih =>
  cases i with
  | zero => simp [szs]
  | succ i => simp only [List.take_succ_cons, szs]; have := ih i; omega
theorem a2n {l : List α} {p : α} (h : l[i]? = some p) : szs sz (l.take i) + sz p ≤ szs sz l := by
 rw [← r6r sz h]; exact d0a sz l (i + 1)
theorem a4p (h : ∀ p, 1 ≤ sz p) (l : List α) : l.length ≤ szs sz l := by
 induction l with
 | nil => exact Nat.zero_le _
 | cons a r ih => have := h a; simp only [szs, List.length_cons]; omega
theorem a4q (h : l[i]? = some p) : (mks sz mk k l)[i]? = some (mk (k + szs sz (l.take i)) p) := by
 induction l generalizing i k with
 | nil => simp at h
 | cons a r ih =>
  cases i with
  | zero => simp at h; subst h; simp [mks, szs]
  | succ i => simp at h; simp only [mks, List.getElem?_cons_succ, ih h, List.take_succ_cons, szs]; rw [Nat.add_assoc]
end
variable {α : Type} {i : Nat}
theorem z3z {l : List α} {e : α} (h : l[i]? = some e) : l.take (i + 1) = l.take i ++ [e] := by
 rw [List.take_add_one, h]; rfl
theorem v1v {l : List α} {p : α} (h : l[i]? = some p) : l.drop i = p :: l.drop (i + 1) := by
 obtain ⟨hi, rfl⟩ := List.getElem?_eq_some_iff.1 h
 exact List.drop_eq_getElem_cons hi
def mEv (k : Nat) : Ev := ⟨k, (k + 1 : Nat), (k + 1 + 1 : Nat), (k + 1 + 1 + 1 : Nat), (k + 1 + 1 + 1 + 1 : Nat), (k + 1 + 1 + 1 + 1 + 1 : Nat), (k + 1 + 1 + 1 + 1 + 1 + 1 : Nat)⟩
def mOu (k : Nat) : Ou := ⟨k, (k + 1 : Nat), (k + 1 + 1 : Nat), (k + 1 + 1 + 1 : Nat), (k + 1 + 1 + 1 + 1 : Nat)⟩
def mSt (k : Nat) : St := ⟨k, (k + 1 : Nat), (k + 1 + 1 : Nat)⟩
def zI : Int → Nat := fun _ => 1
def kI : Nat → Int → Int := fun k _ => (k : Int)
def zEv : Ev → Nat := fun _ => 7
def kEv : Nat → Ev → Ev := fun k _ => mEv k
def zOu : Ou → Nat := fun _ => 5
def kOu : Nat → Ou → Ou := fun k _ => mOu k
def zPa (p : Pa) : Nat := 10 + szs zEv p.sends + szs zOu p.outs
def kPa (k : Nat) (p : Pa) : Pa := ⟨mEv k, mSt (k + 7), mks zEv kEv (k + 10) p.sends, mks zOu kOu (k + 10 + szs zEv p.sends) p.outs⟩
def zLa (l : La) : Nat := 4 + szs zPa l.done
def kLa (k : Nat) (l : La) : La := ⟨(k : Int), mSt (k + 1), mks zPa kPa (k + 4) l.done⟩
def zVi (v : Vi) : Nat := 2 + szs zEv v.events
def kVi (k : Nat) (v : Vi) : Vi := ⟨(k : Int), (k + 1 : Nat), mks zEv kEv (k + 2) v.events⟩
def zNd (n : Nd) : Nat := szs zLa n.lanes + szs zEv n.kept + szs zOu n.outs + szs zVi n.views + szs zI n.known
def kNd (k : Nat) (n : Nd) : Nd := { n with
 lanes := mks zLa kLa k n.lanes
 kept := mks zEv kEv (k + szs zLa n.lanes) n.kept
 outs := mks zOu kOu (k + szs zLa n.lanes + szs zEv n.kept) n.outs
 views := mks zVi kVi (k + szs zLa n.lanes + szs zEv n.kept + szs zOu n.outs) n.views
 known := mks zI kI (k + szs zLa n.lanes + szs zEv n.kept + szs zOu n.outs + szs zVi n.views) n.known }
end
section
def lf (left c : Nat) : Int := if c ≤ left then ((left - c : Nat) : Int) else -1
theorem a0s (h : c ≤ left) : lf left c = ((left - c : Nat) : Int) := if_pos h
theorem a2o (h : ¬ c ≤ left) : lf left c = -1 := if_neg h
theorem b3c (h : lf left c < 0) : ¬ c ≤ left := fun h2 => by rw [a0s h2] at h; omega
theorem b1h (h : ¬ lf left c < 0) : c ≤ left := Decidable.byContradiction fun h2 => h (by rw [a2o h2]; decide)
def cPa (p : Pa) : Nat := p.sends.length + p.outs.length
def c4w (l : List Pa) : Nat := l.length + szs cPa l
def cLa (l : La) : Nat := c4w l.done
def b7y (l : List La) : Nat := l.length + szs cLa l
def cVi (v : Vi) : Nat := v.events.length
def c3j (l : List Vi) : Nat := l.length + szs cVi l
def cNd (n : Nd) : Nat := b7y n.lanes + n.kept.length + n.outs.length + c3j n.views + n.known.length
end
section
def b8v (e : Ev) : Prop := (0 ≤ e.time ∧ e.time ≤ 40) ∧ (0 ≤ e.to ∧ e.to ≤ 3) ∧ (-1 ≤ e.from' ∧ e.from' ≤ 3) ∧ (0 ≤ e.count ∧ e.count ≤ 12) ∧ (0 ≤ e.n ∧ e.n ≤ 3) ∧ (0 ≤ e.kind ∧ e.kind ≤ 3) ∧ (0 ≤ e.arg ∧ e.arg ≤ 999)
instance (e : Ev) : Decidable (b8v e) := by unfold b8v; infer_instance
def c3k (s : St) : Prop := (0 ≤ s.x ∧ s.x ≤ 999) ∧ (0 ≤ s.y ∧ s.y ≤ 999) ∧ (0 ≤ s.count ∧ s.count ≤ 12)
instance (s : St) : Decidable (c3k s) := by unfold c3k; infer_instance
def d1v (o : Ou) : Prop := (0 ≤ o.time ∧ o.time ≤ 40) ∧ (0 ≤ o.proc ∧ o.proc ≤ 3) ∧ (0 ≤ o.count ∧ o.count ≤ 11) ∧ (0 ≤ o.n ∧ o.n ≤ 1) ∧ (0 ≤ o.value ∧ o.value ≤ 999)
instance (o : Ou) : Decidable (d1v o) := by unfold d1v; infer_instance
section
variable {α : Type} (ok : α → Bool) (lt : α → α → Bool)

def a8y : Option α → List α → Bool
 | _, [] => true
 | o, a :: r => ok a && (match o with
  | none => true
  | some b => lt b a) && a8y (some a) r
theorem a5m (h : ok a = false) : a8y ok lt o (a :: r) = false := by simp [a8y, h]
theorem b6z (h : lt b a = false) : a8y ok lt (some b) (a :: r) = false := by simp [a8y, h]
theorem a9l (h : ok a = true) (h2 : lt b a = true) : a8y ok lt (some b) (a :: r) = a8y ok lt (some a) r := by simp [a8y, h, h2]
theorem a6s (h : ok a = true) : a8y ok lt none (a :: r) = a8y ok lt (some a) r := by simp [a8y, h]
end
def b1i {α : Type} (l : List α) (i : Nat) : Option α := match i with
 | 0 => none
 | i + 1 => l[i]?
def a6t {α : Type} (ok : α → Bool) (lt : α → α → Bool) (l : List α) (most : Int) : Bool := decide ((l.length : Int) ≤ most) && a8y ok lt none l
theorem b1z (h : ¬ (l.length : Int) ≤ most) : a6t ok lt l most = false := by simp [a6t, h]
theorem c0h (h : (l.length : Int) ≤ most) : a6t ok lt l most = a8y ok lt none l := by simp [a6t, h]
def okE (e : Ev) : Bool := decide (b8v e)
def okO (o : Ou) : Bool := decide (d1v o)
theorem d1w (a b : Int) (x y : List Int) : c4p (a :: x) (b :: y) = true ↔ a < b ∨ (a = b ∧ c4p x y = true) := by
 rw [a9j]
 by_cases h1 : a < b
 ·simp [h1]
 ·by_cases h2 : b < a
  ·simp [h1, h2]; omega
  ·have : a = b := by omega
   subst this; simp
def d6u (a b : Ev) : Prop := a.time < b.time ∨ (a.time = b.time ∧ (a.to < b.to ∨ (a.to = b.to ∧ (a.from' < b.from' ∨ (a.from' = b.from' ∧ (a.count < b.count ∨ (a.count = b.count ∧ (a.n < b.n ∨ (a.n = b.n ∧ (a.kind < b.kind ∨ (a.kind = b.kind ∧ a.arg < b.arg)))))))))))
instance (a b : Ev) : Decidable (d6u a b) := by unfold d6u; infer_instance
theorem b0f (a b : Ev) : a1i a b = decide (d6u a b) := by
 rw [Bool.eq_iff_iff, decide_eq_true_iff]
 simp only [a1i, evN, d1w, d6u]
 simp [c4p]
def d8l (a b : Ou) : Prop := a.time < b.time ∨ (a.time = b.time ∧ (a.proc < b.proc ∨ (a.proc = b.proc ∧ (a.count < b.count ∨ (a.count = b.count ∧ (a.n < b.n ∨ (a.n = b.n ∧ a.value < b.value)))))))
instance (a b : Ou) : Decidable (d8l a b) := by unfold d8l; infer_instance
theorem b2x (a b : Ou) : a4e a b = decide (d8l a b) := by
 rw [Bool.eq_iff_iff, decide_eq_true_iff]
 simp only [a4e, ouL, d1w, d8l]
 simp [c4p]
def b5t (proc : Int) (p : Pa) : Bool := decide (b8v p.ev) && decide (p.ev.to = proc) && decide (c3k p.after) && a6t okE a1i p.sends 2 && a6t okO a4e p.outs 2
def e1u (a b : Pa) : Bool := a1i a.ev b.ev
def a9m (l : La) : Bool := decide (0 ≤ l.proc ∧ l.proc ≤ 3) && decide (c3k l.base) && a6t (b5t l.proc) e1u l.done 100
theorem d6v (h1 : 0 ≤ l.proc ∧ l.proc ≤ 3) (h2 : c3k l.base) (h3 : l.done.length ≤ 100) : a9m l = a8y (b5t l.proc) e1u none l.done := by
 rw [a9m, decide_eq_true h1, decide_eq_true h2, c0h (by omega)]; rfl
theorem e1v (h : ¬ (0 ≤ l.proc ∧ l.proc ≤ 3)) : a9m l = false := by rw [a9m, decide_eq_false h]; rfl
theorem e1w (h : ¬ c3k l.base) : a9m l = false := by rw [a9m, decide_eq_false h]; simp
theorem e1x (h : ¬ l.done.length ≤ 100) : a9m l = false := by rw [a9m, b1z (by omega)]; simp
end
section
noncomputable def kb (p : Prop) : Bool := @decide p (Classical.propDecidable p)
theorem e1y (h : p) : true = kb p := by unfold kb; exact (@decide_eq_true p (Classical.propDecidable p) h).symm
theorem a5y (h : ¬ p) : false = kb p := by unfold kb; exact (@decide_eq_false p (Classical.propDecidable p) h).symm
theorem a4r : kb p = true ↔ p := ⟨fun h => Classical.byContradiction (fun hn => by rw [← a5y hn] at h; cases h), fun h => (e1y h).symm⟩
theorem a4s (h : kb p = false) : ¬ p := fun hp => by rw [← e1y hp] at h; cases h
theorem e4a (h : b = true ↔ p) : b = kb p := by
 cases b
 ·exact a5y fun hp => by have := h.2 hp; cases this
 ·exact e1y (h.1 rfl)
def a7h (n : Nd) : Prop := (0 ≤ n.id ∧ n.id ≤ 2) ∧ (1 ≤ n.inc ∧ n.inc ≤ 9999) ∧ (0 ≤ n.g ∧ n.g ≤ 41) ∧ (0 ≤ n.led ∧ n.led ≤ 9999) ∧ (0 ≤ n.version ∧ n.version ≤ 9999) ∧ (0 ≤ n.round ∧ n.round ≤ 9999) ∧ (0 ≤ n.low ∧ n.low ≤ 41)
instance (n : Nd) : Decidable (a7h n) := by unfold a7h; infer_instance
def d3w (v : Vi) : Prop := (0 ≤ v.inc ∧ v.inc ≤ 9999) ∧ (0 ≤ v.version ∧ v.version ≤ 9999) ∧ a6t okE a1i v.events 100 = true
def d9t (n : Nd) : Prop := ∀ (i : Nat) v k, n.views[i]? = some v → n.known[i]? = some k → d3w v ∧ 0 ≤ k ∧ k ≤ 41
def c4x (n : Nd) : Prop := n.views.length = 3 ∧ n.known.length = 3 ∧ (0 ≤ n.version ∧ n.version ≤ 9999) ∧ (0 ≤ n.round ∧ n.round ≤ 9999) ∧ (0 ≤ n.low ∧ n.low ≤ 41) ∧ d9t n
def d9u (n : Nd) : Prop := ∀ (i : Nat) l, n.lanes[i]? = some l → (a0j n.id 4)[i]? = some l.proc ∧ a9m l = true
def a1n (n : Nd) : Prop := a7h n ∧ a6t okE a1i n.kept 100 = true ∧ a6t okO a4e n.outs 96 = true ∧ (∀ (i : Nat) o, n.outs[i]? = some o → o.time < n.g) ∧ n.lanes.length = (a0j n.id 4).length ∧ n.views.length = 3 ∧ n.known.length = 3 ∧ d9u n ∧ d9t n

def c8f {α : Type} (l : List α) (p : Nat → α → Prop) (i : Nat) : Prop := ∀ (j : Nat) a, j < i → l[j]? = some a → p j a
theorem a0z : c8f l p 0 := fun j a h => absurd h (Nat.not_lt_zero j)
theorem a0e (h : c8f l p i) (ha : l[i]? = some a) (hp : p i a) : c8f l p (i + 1) := fun j b hj hb => by
 by_cases e : j = i
 ·subst e; rw [ha] at hb; cases hb; exact hp
 ·exact h j b (by omega) hb
theorem a2z (h : c8f l p i) (hi : l.length ≤ i) : ∀ (j : Nat) a, l[j]? = some a → p j a := fun j a ha => h j a (by have := (List.getElem?_eq_some_iff.1 ha).1; omega) ha
end
section
def a8l (l : La) : List Ev := l.done.flatMap Pa.sends
def r7r (n : Nd) : List Ev := n.kept ++ n.lanes.flatMap a8l
def b0g (n : Nd) (j : Nat) : List Ev := if (j : Int) = n.id then [] else (n.views.getD j vi0).events
def r1r (n : Nd) (i : Nat) : List Ev := (List.range i).flatMap (b0g n)
def a7i (proc g : Int) (e : Ev) : Bool := decide (e.to = proc ∧ g ≤ e.time)
def s6s (n : Nd) (proc : Int) : List Ev := w0w ((r7r n ++ r1r n 3).filter (a7i proc n.g))
variable {α β : Type} {i : Nat}
theorem a1s {f : α → List β} {l : List α} {p : α} (h : l[i]? = some p) : (l.take (i + 1)).flatMap f = (l.take i).flatMap f ++ f p := by
 rw [List.take_add_one, h]; simp
theorem c8g {f : α → List β} {l : List α} {p : α} (h : l[i]? = some p) : ((l.take i).flatMap f).length + (f p).length ≤ (l.flatMap f).length := by
 have e : l = l.take i ++ p :: l.drop (i + 1) := by
  rw [← v1v h, List.take_append_drop]
 conv => rhs; rw [e]
 simp only [List.flatMap_append, List.flatMap_cons, List.length_append]; omega
theorem c0i {n : Nd} {i j : Nat} {p : La} {q : Pa} (hp : n.lanes[i]? = some p) (hq : p.done[j]? = some q) : (n.kept ++ (n.lanes.take i).flatMap a8l ++ (p.done.take j).flatMap Pa.sends ++ q.sends).length ≤ (r7r n).length := by
 have h1 := c8g (f := a8l) hp
 have h2 := c8g (f := Pa.sends) hq
 have h3 : (a8l p).length = (p.done.flatMap Pa.sends).length := rfl
 simp only [r7r, List.length_append] at *
 omega
theorem s7s (n : Nd) (i : Nat) : r1r n (i + 1) = r1r n i ++ b0g n i := by simp [r1r, List.range_succ]
theorem c0j (n : Nd) (h : i ≤ 3) : (r1r n i).length ≤ (r1r n 3).length := by
 have : i = 0 ∨ i = 1 ∨ i = 2 ∨ i = 3 := by omega
 have h0 : r1r n 0 = [] := rfl
 have h1 := s7s n 0
 have h2 := s7s n 1
 have h3 := s7s n 2
 rcases this with rfl | rfl | rfl | rfl <;> simp only [h3, h2, h1, h0, List.length_append, List.length_nil] <;> omega
theorem q7q {p : α → Bool} {l : List α} {a : α} (h : l[i]? = some a) : (l.take (i + 1)).filter p = (l.take i).filter p ++ if p a then [a] else [] := by
 rw [List.take_add_one, h, List.filter_append]
 cases hp : p a <;> simp [hp]
end
section
def same : List Pa → List Ev → Nat
 | p :: r, e :: s => if p.ev = e then same r s + 1 else 0
 | _, _ => 0
variable {l : List Pa} {s : List Ev} {i : Nat} {p : Pa} {e : Ev}
theorem c8h (hp : l[i]? = some p) (he : s[i]? = some e) (h : p.ev = e) : same (l.drop i) (s.drop i) = same (l.drop (i + 1)) (s.drop (i + 1)) + 1 := by
 rw [v1v hp, v1v he, same, if_pos h]
theorem c8i (hp : l[i]? = some p) (he : s[i]? = some e) (h : ¬ p.ev = e) : same (l.drop i) (s.drop i) = 0 := by
 rw [v1v hp, v1v he, same, if_neg h]
theorem c8j (h : l.length ≤ i) : same (l.drop i) (s.drop i) = 0 := by
 rw [List.drop_of_length_le h]; rfl
theorem c8k (h : s.length ≤ i) : same (l.drop i) (s.drop i) = 0 := by
 rw [List.drop_of_length_le h]; cases l.drop i <;> rfl
section
variable {α : Type} [DecidableEq α] {lt : α → α → Bool}
theorem c3l (O : STO lt) : ∀ {a b : List α}, (∀ y ∈ a, lt y x = true) → (∀ y ∈ b, lt x y = true) → c7z lt x (a ++ b) = a ++ x :: b
 | [], [], _, _ => rfl
 | [], y :: b, _, hb => by
  have h := hb y (List.mem_cons_self ..)
  have hne : x ≠ y := fun e => by subst e; rw [O.irr] at h; cases h
  simp only [List.nil_append, c7z, if_neg hne, h, if_true]
 | y :: a, b, ha, hb => by
  have h := ha y (List.mem_cons_self ..)
  have hne : x ≠ y := fun e => by subst e; rw [O.irr] at h; cases h
  have hn : lt x y = false := O.asymm h
  simp only [List.cons_append, c7z, if_neg hne, hn, Bool.false_eq_true, if_false]
  rw [c3l O (fun z hz => ha z (List.mem_cons_of_mem _ hz)) hb]
theorem e4b (O : STO lt) (h : SS lt o) (hx : x ∈ o) : c7z lt x o = o :=
 SS.uniq O (c9y O x o h) h fun z => by rw [b8u]; exact ⟨fun q => q.elim (fun e => e ▸ hx) id, .inr⟩

theorem d6w (O : STO lt) (h : SS lt o) (hk : ∀ (j : Nat) y, k ≤ j → o[j]? = some y → lt x y = true) (hl : ∀ y, 0 < k → o[k - 1]? = some y → lt x y = false ∧ y ≠ x) (hk2 : k ≤ o.length) : c7z lt x o = o.take k ++ x :: o.drop k := by
 conv => lhs; rw [← List.take_append_drop k o]
 refine c3l O (fun y hy => ?_) (fun y hy => ?_)
 ·obtain ⟨j, hj⟩ := List.getElem?_of_mem hy
  rw [List.getElem?_take] at hj
  split at hj
  ·rename_i hjk
   have hkl : k - 1 < o.length := by omega
   obtain ⟨z, hz⟩ : ∃ z, o[k - 1]? = some z := ⟨_, List.getElem?_eq_getElem hkl⟩
   obtain ⟨q1, q2⟩ := hl z (by omega) hz
   have hzx : lt z x = true := by
    rcases O.tot _ _ q2 with h1 | h1
    ·exact h1
    ·rw [h1] at q1; cases q1
   by_cases e : j = k - 1
   ·subst e; rw [hj] at hz; cases hz; exact hzx
   ·have hlt : lt y z = true := by
     obtain ⟨p1, rfl⟩ := List.getElem?_eq_some_iff.1 hj
     obtain ⟨p2, rfl⟩ := List.getElem?_eq_some_iff.1 hz
     exact List.pairwise_iff_getElem.1 h j (k - 1) p1 p2 (by omega)
    exact O.trans _ _ _ hlt hzx
  ·cases hj
 ·obtain ⟨j, hj⟩ := List.getElem?_of_mem hy
  rw [List.getElem?_drop] at hj
  exact hk (k + j) y (by omega) hj
end
theorem d0b (l : List Ev) (x : Ev) : w0w (l ++ [x]) = c7z a1i x (w0w l) := by simp [w0w, e3v]
theorem b4l {l : List Ev} {x : Ev} (h : l[i]? = some x) : w0w (l.take (i + 1)) = c7z a1i x (w0w (l.take i)) := by rw [z3z h, d0b]
theorem b5u (l : List Ev) : SS a1i (w0w l) := d6h c8e l
theorem c0k (l : List Ev) : (w0w l).length ≤ l.length := by
 have := (c0g l)
 rw [← this]
 exact Nat.le_trans (c0e _ _) (b6y l)
section
variable {α : Type} {o : List α} {n : Nat} {w x z : α}
theorem c8l (hn : n ≤ o.length) : (o.take n).length = n := by rw [List.length_take]; omega
theorem d1x (hn : n ≤ o.length) (h0 : 0 < n) (hz : o[n - 1]? = some z) : (o.take n ++ w :: o.drop n)[n - 1]? = some z := by
 rw [List.getElem?_append_left (by rw [c8l hn]; omega), List.getElem?_take, if_pos (by omega), hz]
theorem c8m (hn : n ≤ o.length) : (o.take n ++ w :: o.drop n)[n]? = some w := by
 rw [List.getElem?_append_right (by rw [c8l hn]; exact Nat.le_refl _), c8l hn, Nat.sub_self]; rfl
theorem d6x (hn : n ≤ o.length) : (o.take n ++ w :: o.drop n).set n x = o.take n ++ x :: o.drop n := by
 rw [List.set_append_right _ _ (by rw [c8l hn]; exact Nat.le_refl _), c8l hn, Nat.sub_self, List.set_cons_zero]
theorem e1z (hn : n ≤ o.length) (h0 : 0 < n) (hz : o[n - 1]? = some z) : (o.take n ++ w :: o.drop n).set n z = o.take (n - 1) ++ z :: o.drop (n - 1) := by
 rw [d6x hn]
 have e1 : o.take n = o.take (n - 1) ++ [z] := by
  have := z3z hz
  rwa [show n - 1 + 1 = n from by omega] at this
 have e2 : o.drop (n - 1) = z :: o.drop n := by
  have := v1v hz
  rwa [show n - 1 + 1 = n from by omega] at this
 rw [e1, e2]; simp
end
end
section
section
variable {α : Type} {ok : α → Bool} {lt : α → α → Bool}
theorem d1y : ∀ {l : List α} {o : Option α}, a8y ok lt o l = true → ∀ p ∈ l, ok p = true
 | [], _, _, p, hp => by cases hp
 | a :: r, o, h, p, hp => by
  simp only [a8y, Bool.and_eq_true] at h
  rcases List.mem_cons.1 hp with rfl | hp
  ·exact h.1.1
  ·exact d1y h.2 p hp
theorem r8r (h : a6t ok lt l most = true) : (l.length : Int) ≤ most ∧ ∀ p ∈ l, ok p = true := by
 simp only [a6t, Bool.and_eq_true, decide_eq_true_eq] at h
 exact ⟨h.1, d1y h.2⟩
end
theorem a1y {α β : Type} {f : α → List β} {k : Nat} : ∀ {l : List α}, (∀ a ∈ l, (f a).length ≤ k) → (l.flatMap f).length ≤ l.length * k
 | [], _ => by simp
 | a :: r, h => by
  have h1 := h a (List.mem_cons_self ..)
  have h2 := a1y (f := f) (k := k) (l := r) fun b hb => h b (List.mem_cons_of_mem _ hb)
  simp only [List.flatMap_cons, List.length_append, List.length_cons, Nat.add_mul, Nat.one_mul]
  omega
theorem a1z (h : a9m l = true) : l.done.length ≤ 100 ∧ ∀ p ∈ l.done, p.sends.length ≤ 2 ∧ p.outs.length ≤ 2 := by
 simp only [a9m, Bool.and_eq_true] at h
 obtain ⟨h1, h2⟩ := r8r h.2
 refine ⟨by omega, fun p hp => ?_⟩
 have := h2 p hp
 simp only [b5t, Bool.and_eq_true] at this
 have a := (r8r this.1.2).1
 have b := (r8r this.2).1
 omega
theorem d9v {l : La} (h : a9m l = true) : (a8l l).length ≤ 200 := by
 obtain ⟨h1, h2⟩ := a1z h
 have := a1y (f := Pa.sends) (k := 2) (l := l.done) fun p hp => (h2 p hp).1
 simp only [a8l]; omega
variable {n : Nd}
theorem d0c (hk : a6t okE a1i n.kept 100 = true) (hl : n.lanes.length ≤ 4) (ho : d9u n) : (r7r n).length ≤ 900 := by
 have h1 := (r8r hk).1
 have := a1y (f := a8l) (k := 200) (l := n.lanes) fun l hm => by
  obtain ⟨i, hi⟩ := List.getElem?_of_mem hm
  exact d9v (ho i l hi).2
 simp only [r7r, List.length_append]; omega
theorem c4y (h3 : n.views.length = 3) (hk : n.known.length = 3) (hv : d9t n) : (r1r n 3).length ≤ 300 := by
 have := a1y (f := b0g n) (k := 100) (l := List.range 3) fun j hj => by
  rw [List.mem_range] at hj
  unfold b0g
  split
  ·simp
  ·obtain ⟨v, hv1⟩ : ∃ v, n.views[j]? = some v := ⟨_, List.getElem?_eq_getElem (by omega)⟩
   obtain ⟨k, hk1⟩ : ∃ k, n.known[j]? = some k := ⟨_, List.getElem?_eq_getElem (by omega)⟩
   have := (r8r (hv j v k hv1 hk1).1.2.2).1
   rw [List.getD_eq_getElem?_getD, hv1]
   simp only [Option.getD_some]; omega
 simpa [r1r] using this
def w3w (n : Nd) : Prop := a1n n ∧ ∀ (i : Nat) p l, (a0j n.id 4)[i]? = some p → n.lanes[i]? = some l → l.done.length ≤ same l.done (s6s n p) ∧ (s6s n p).length ≤ 100

theorem c0l : ∀ {l : List Ou} {o : Option Ou}, a8y okO a4e o l = true → ∀ (i j : Nat) a b, i ≤ j → l[i]? = some a → l[j]? = some b → a.time ≤ b.time
 | [], _, _, i, j, a, b, _, h, _ => by simp at h
 | x :: r, o, h, i, j, a, b, hij, ha, hb => by
  simp only [a8y, Bool.and_eq_true] at h
  have step : ∀ {r : List Ou} {x : Ou}, a8y okO a4e (some x) r = true → ∀ y, r[0]? = some y → x.time ≤ y.time := fun {r x} h y hy => by
   cases r with
   | nil => simp at hy
   | cons z r =>
    simp only [List.getElem?_cons_zero, Option.some.injEq] at hy
    subst hy
    simp only [a8y, Bool.and_eq_true] at h
    have := h.1.2
    rw [b2x, decide_eq_true_iff] at this
    unfold d8l at this
    omega
  cases j with
  | zero =>
   have : i = 0 := by omega
   subst this
   rw [ha] at hb; cases hb; omega
  | succ j =>
   cases i with
   | succ i => exact c0l h.2 i j a b (by omega) (by simpa using ha) (by simpa using hb)
   | zero =>
    simp only [List.getElem?_cons_zero, Option.some.injEq] at ha
    subst ha
    simp only [List.getElem?_cons_succ] at hb
    have hr : 0 < r.length := by have := (List.getElem?_eq_some_iff.1 hb).1; omega
    obtain ⟨y, hy⟩ : ∃ y, r[0]? = some y := ⟨_, List.getElem?_eq_getElem hr⟩
    have h1 := step h.2 y hy
    have h2 := c0l h.2 0 j y b (by omega) hy hb
    omega
theorem c8n (ho : a6t okO a4e n.outs 96 = true) {o : Ou} (hl : n.outs[n.outs.length - 1]? = some o) (ht : o.time < n.g) : ∀ (i : Nat) a, n.outs[i]? = some a → a.time < n.g := fun i a ha => by
 have h1 := (List.getElem?_eq_some_iff.1 ha).1
 simp only [a6t, Bool.and_eq_true] at ho
 have := c0l ho.2 i (n.outs.length - 1) a o (by omega) ha hl
 omega
end
section
theorem b5v : ∀ {l : List α}, (∀ a ∈ l, sz a ≤ k) → szs sz l ≤ l.length * k
 | [], _ => by simp [szs]
 | a :: r, h => by
  have h1 := h a (List.mem_cons_self ..)
  have h2 := b5v (sz := sz) (k := k) (l := r) fun b hb => h b (List.mem_cons_of_mem _ hb)
  simp only [szs, List.length_cons, Nat.add_mul, Nat.one_mul]
  omega
theorem e4c (h1 : l.length ≤ 100) (h2 : ∀ p ∈ l, p.sends.length ≤ 2 ∧ p.outs.length ≤ 2) : c4w l ≤ 500 := by
 have := b5v (sz := cPa) (k := 4) (l := l) fun p hp => by have := h2 p hp; simp only [cPa]; omega
 simp only [c4w]; omega
theorem v2v (h : a1n n) : n.lanes.length ≤ 4 ∧ n.kept.length ≤ 100 ∧ n.outs.length ≤ 96 ∧ b7y n.lanes ≤ 2004 ∧ c3j n.views ≤ 303 ∧ cNd n ≤ 2606 := by
 obtain ⟨q1, q2, q3, q4, q5, q6, q7, q8, q9⟩ := h
 have hp := a7g n.id 4
 have hk := (r8r q2).1
 have ho := (r8r q3).1
 have hl : b7y n.lanes ≤ 2004 := by
  have := b5v (sz := cLa) (k := 500) (l := n.lanes) fun l hm => by
   obtain ⟨i, hi⟩ := List.getElem?_of_mem hm
   obtain ⟨g1, g2⟩ := a1z (q8 i l hi).2
   exact e4c g1 g2
  simp only [b7y]; omega
 have hv : c3j n.views ≤ 303 := by
  have := b5v (sz := cVi) (k := 100) (l := n.views) fun v hm => by
   obtain ⟨i, hi⟩ := List.getElem?_of_mem hm
   have hlt := (List.getElem?_eq_some_iff.1 hi).1
   obtain ⟨k, hk⟩ : ∃ k, n.known[i]? = some k := ⟨_, List.getElem?_eq_getElem (by omega)⟩
   have := (r8r (q9 i v k hi hk).1.2.2).1
   simp only [cVi]; omega
  simp only [c3j]; omega
 refine ⟨by omega, by omega, by omega, hl, hv, ?_⟩
 simp only [cNd]; omega
theorem b7a (h : a1n n) : (r7r n).length + (r1r n 3).length ≤ 5000000 := by
 obtain ⟨q1, q2, q3, q4, q5, q6, q7, q8, q9⟩ := h
 have hp := a7g n.id 4
 have := d0c q2 (by omega) q8
 have := c4y q6 q7 q9
 omega

def a0x (l : La) (f t : Nat) : La := ⟨l.proc, l.base, (l.done.take t).drop f⟩
theorem c0m (l : La) : a0x l 0 l.done.length = l := by simp [a0x]
theorem d6y {α : Type} {l : List α} {f i t : Nat} (h1 : f ≤ i) (h2 : i = f ∨ (i ≤ t ∧ i ≤ l.length)) (h3 : ¬ (i < t ∧ i < l.length)) : (l.take i).drop f = (l.take t).drop f := by
 rcases h2 with rfl | ⟨h4, h5⟩
 ·rw [List.drop_of_length_le (by rw [List.length_take]; omega)]
  by_cases h : i < t
  ·rw [List.drop_of_length_le (by rw [List.length_take]; omega)]
  ·rw [List.drop_of_length_le (by rw [List.length_take]; omega)]
 ·by_cases h : i = t
  ·rw [h]
  ·rw [List.take_of_length_le (by omega), List.take_of_length_le (by omega)]

def lb (l : La) : Prop := l.done.length ≤ 1000000 ∧ ∀ p ∈ l.done, p.sends.length ≤ 1000000 ∧ p.outs.length ≤ 1000000
theorem e6o (h : a9m l = true) : lb l := by
 obtain ⟨h1, h2⟩ := a1z h
 exact ⟨by omega, fun p hp => by have := h2 p hp; omega⟩
theorem e2a (n : Nd) : zNd n ≤ 20 * cNd n := by
 have e1 : ∀ l : List Ev, szs zEv l = 7 * l.length := fun l => by
  induction l with
  | nil => rfl
  | cons a r ih => simp only [szs, ih, List.length_cons, zEv]; omega
 have e2 : ∀ l : List Ou, szs zOu l = 5 * l.length := fun l => by
  induction l with
  | nil => rfl
  | cons a r ih => simp only [szs, ih, List.length_cons, zOu]; omega
 have e3 : ∀ l : List Int, szs zI l = l.length := fun l => by
  induction l with
  | nil => rfl
  | cons a r ih => simp only [szs, ih, List.length_cons, zI]; omega
 have e4 : ∀ l : List Pa, szs zPa l ≤ 10 * c4w l := fun l => by
  induction l with
  | nil => simp [szs, c4w]
  | cons a r ih => simp only [szs, c4w, List.length_cons, zPa, cPa, e1, e2] at ih ⊢; omega
 have e5 : ∀ l : List La, szs zLa l ≤ 20 * b7y l := fun l => by
  induction l with
  | nil => simp [szs, b7y]
  | cons a r ih => have := e4 a.done; simp only [szs, b7y, List.length_cons, zLa, cLa] at ih ⊢; omega
 have e6 : ∀ l : List Vi, szs zVi l ≤ 20 * c3j l := fun l => by
  induction l with
  | nil => simp [szs, c3j]
  | cons a r ih => simp only [szs, c3j, List.length_cons, zVi, cVi, e1] at ih ⊢; omega
 have := e5 n.lanes
 have := e6 n.views
 simp only [zNd, cNd, e1, e2, e3]; omega

def nb (n : Nd) : Prop := n.lanes.length ≤ 1000000 ∧ n.kept.length ≤ 1000000 ∧ n.outs.length ≤ 1000000 ∧ (∀ l ∈ n.lanes, lb l) ∧ n.views.length ≤ 1000000 ∧ (∀ v ∈ n.views, v.events.length ≤ 1000000) ∧ n.known.length ≤ 1000000
theorem d0e (h : a1n n) : nb n := by
 have hb := v2v h
 obtain ⟨q1, q2, q3, q4, q5, q6, q7, q8, q9⟩ := h
 refine ⟨by omega, by omega, by omega, fun l hm => ?_, by omega, fun v hm => ?_, by omega⟩
 ·obtain ⟨i, hi⟩ := List.getElem?_of_mem hm
  exact e6o (q8 i l hi).2
 ·obtain ⟨i, hi⟩ := List.getElem?_of_mem hm
  have hlt := (List.getElem?_eq_some_iff.1 hi).1
  obtain ⟨k, hk⟩ : ∃ k, n.known[i]? = some k := ⟨_, List.getElem?_eq_getElem (by omega)⟩
  have := (r8r (q9 i v k hi hk).1.2.2).1
  omega
end
section
structure Wo where
 kind : Int
 from' : Int
 to : Int
 inc : Int
 version : Int
 round : Int
 g : Int
 incs : List Int
 versions : List Int
 events : List Ev
 outs : List Ou
 deriving DecidableEq, Inhabited
def wo0 : Wo := ⟨0, 0, 0, 0, 0, 0, 0, [], [], [], []⟩
def zWo (w : Wo) : Nat := 7 + szs zI w.incs + szs zI w.versions + szs zEv w.events + szs zOu w.outs
def kWo (k : Nat) (w : Wo) : Wo := ⟨(k : Int), (k + 1 : Nat), (k + 1 + 1 : Nat), (k + 1 + 1 + 1 : Nat), (k + 1 + 1 + 1 + 1 : Nat), (k + 1 + 1 + 1 + 1 + 1 : Nat), (k + 1 + 1 + 1 + 1 + 1 + 1 : Nat), mks zI kI (k + 7) w.incs, mks zI kI (k + 7 + szs zI w.incs) w.versions, mks zEv kEv (k + 7 + szs zI w.incs + szs zI w.versions) w.events, mks zOu kOu (k + 7 + szs zI w.incs + szs zI w.versions + szs zEv w.events) w.outs⟩

def zWl (w : Wo) : Nat := szs zI w.incs + szs zI w.versions + szs zEv w.events + szs zOu w.outs
def kWl (k : Nat) (w : Wo) : Wo := { w with incs := mks zI kI k w.incs, versions := mks zI kI (k + szs zI w.incs) w.versions, events := mks zEv kEv (k + szs zI w.incs + szs zI w.versions) w.events, outs := mks zOu kOu (k + szs zI w.incs + szs zI w.versions + szs zEv w.events) w.outs }
theorem d0f (l : List Int) : szs zI l = l.length := by
 induction l with
 | nil => rfl
 | cons a r ih => simp only [szs, ih, List.length_cons, zI]; omega
theorem e2b (l : List Ev) : szs zEv l = 7 * l.length := by
 induction l with
 | nil => rfl
 | cons a r ih => simp only [szs, ih, List.length_cons, zEv]; omega
theorem e2c (l : List Ou) : szs zOu l = 5 * l.length := by
 induction l with
 | nil => rfl
 | cons a r ih => simp only [szs, ih, List.length_cons, zOu]; omega
def e4d (n : Nd) (to : Int) (e : Ev) : Bool := decide (q0q e.to = to ∧ n.known.getD to.toNat 0 ≤ e.time)
def a6h (to kn : Int) (e : Ev) : Bool := decide (q0q e.to = to ∧ kn ≤ e.time)
def a2p (n : Nd) (to : Int) : List Ev := w0w ((r7r n).filter (e4d n to))
variable {n : Nd} {t : Nat} {kn : Int}
theorem d9w (h : n.known[t]? = some kn) : e4d n (t : Int) = a6h (t : Int) kn := by
 funext e
 unfold e4d a6h
 rw [Int.toNat_natCast, List.getD_eq_getElem?_getD, h]; rfl
theorem c8o (h : n.known[t]? = some kn) : a2p n (t : Int) = w0w ((r7r n).filter (a6h (t : Int) kn)) := by
 unfold a2p; rw [d9w h]
end
section
theorem d1z {α : Type} {ok : α → Bool} {lt : α → α → Bool} (O : STO lt) : ∀ {l : List α} {o : Option α}, a8y ok lt o l = true ↔ (∀ a ∈ l, ok a = true) ∧ SS lt l ∧ ∀ b, o = some b → ∀ a ∈ l, lt b a = true
 | [], o => by simp [a8y, SS]
 | a :: r, o => by
  have e : a8y ok lt o (a :: r) = (ok a && (match o with | none => true | some b => lt b a) && a8y ok lt (some a) r) := by cases o <;> rfl
  rw [e, Bool.and_eq_true, Bool.and_eq_true, d1z O]
  constructor
  ·rintro ⟨⟨h1, h2⟩, h3, h4, h5⟩
   refine ⟨fun x hx => ?_, List.pairwise_cons.2 ⟨h5 a rfl, h4⟩, fun b hb x hx => ?_⟩
   ·rcases List.mem_cons.1 hx with rfl | hx
    ·exact h1
    ·exact h3 x hx
   ·subst hb
    rcases List.mem_cons.1 hx with rfl | hx
    ·exact h2
    ·exact O.trans _ _ _ h2 (h5 a rfl x hx)
  ·rintro ⟨h1, h2, h3⟩
   obtain ⟨h4, h5⟩ := List.pairwise_cons.1 h2
   refine ⟨⟨h1 a (List.mem_cons_self ..), ?_⟩, fun x hx => h1 x (List.mem_cons_of_mem _ hx), h5, fun b hb => by cases hb; exact h4⟩
   cases o with
   | none => rfl
   | some b => exact h3 b rfl a (List.mem_cons_self ..)
theorem d9x {α : Type} {ok : α → Bool} {lt : α → α → Bool} (O : STO lt) {l : List α} {most : Int} : a6t ok lt l most = true ↔ (l.length : Int) ≤ most ∧ (∀ a ∈ l, ok a = true) ∧ SS lt l := by
 rw [a6t, Bool.and_eq_true, decide_eq_true_eq, d1z O]
 exact ⟨fun h => ⟨h.1, h.2.1, h.2.2.1⟩, fun h => ⟨h.1, h.2.1, h.2.2, fun b hb => by cases hb⟩⟩
theorem d9y (h : a1n n) (he : e ∈ r7r n) : okE e = true := by
 obtain ⟨q1, q2, q3, q4, q5, q6, q7, q8, q9⟩ := h
 rcases List.mem_append.1 he with he | he
 ·exact (r8r q2).2 e he
 ·obtain ⟨l, hl, he⟩ := List.mem_flatMap.1 he
  obtain ⟨p, hp, he⟩ := List.mem_flatMap.1 he
  obtain ⟨i, hi⟩ := List.getElem?_of_mem hl
  have h1 := (q8 i l hi).2
  simp only [a9m, Bool.and_eq_true] at h1
  have h2 := (r8r h1.2).2 p hp
  simp only [b5t, Bool.and_eq_true] at h2
  exact (r8r h2.1.2).2 e he
theorem d6z (h : a1n n) (he : e ∈ r1r n 3) : okE e = true := by
 obtain ⟨q1, q2, q3, q4, q5, q6, q7, q8, q9⟩ := h
 obtain ⟨j, hj, he⟩ := List.mem_flatMap.1 he
 rw [List.mem_range] at hj
 unfold b0g at he
 split at he
 ·cases he
 ·obtain ⟨v, hv⟩ : ∃ v, n.views[j]? = some v := ⟨_, List.getElem?_eq_getElem (by omega)⟩
  obtain ⟨k, hk⟩ : ∃ k, n.known[j]? = some k := ⟨_, List.getElem?_eq_getElem (by omega)⟩
  rw [List.getD_eq_getElem?_getD, hv] at he
  exact (r8r (q9 j v k hv hk).1.2.2).2 e he
theorem d2a : e ∈ s6s n p ↔ (e ∈ r7r n ∨ e ∈ r1r n 3) ∧ e.to = p ∧ n.g ≤ e.time := by
 unfold s6s w0w
 rw [b2w, List.mem_filter, List.mem_append]
 simp [a7i]

def b3j (l : La) (s : List Ev) : Prop := a6t okE a1i s 100 = true ∧ ∀ e ∈ s, e.to = l.proc
theorem d7a (h : a1n n) (hc : (s6s n l.proc).length ≤ 100) : b3j l (s6s n l.proc) := by
 refine ⟨(d9x c8e).2 ⟨by omega, fun e he => ?_, b5u _⟩, fun e he => ?_⟩
 ·rcases (d2a.1 he).1 with h1 | h1
  ·exact d9y h h1
  ·exact d6z h h1
 ·exact (d2a.1 he).2.1
def ev0 : Ev := ⟨0, 0, 0, 0, 0, 0, 0⟩

def a3z (l : La) (s : List Ev) : Ev × Bool := if same l.done s < l.done.length then (ev0, false) else match s[same l.done s]? with
 | some e => (e, true)
 | none => (ev0, false)
theorem d7b (h : same l.done s < l.done.length) : a3z l s = (ev0, false) := if_pos h
theorem d7c (h2 : s.length ≤ same l.done s) : a3z l s = (ev0, false) := by
 unfold a3z
 split
 ·rfl
 ·rw [List.getElem?_eq_none h2]
theorem d7e (h : ¬ same l.done s < l.done.length) (h2 : s[same l.done s]? = some e) : a3z l s = (e, true) := by unfold a3z; rw [if_neg h, h2]
theorem b5w : ∀ (d : List Pa) (s : List Ev), same d s ≤ s.length ∧ same d s ≤ d.length
 | [], s => by cases s <;> simp [same]
 | _ :: _, [] => by simp [same]
 | p :: d, e :: s => by
  have := b5w d s
  simp only [same]
  split
  ·simp only [List.length_cons]; omega
  ·simp
open Classical in
noncomputable def c2b (l : La) (s : List Ev) : Ev × Bool := if a9m l = true ∧ b3j l s then a3z l s else (ev0, false)
theorem c4z (h : a9m l = true ∧ b3j l s) : c2b l s = a3z l s := if_pos h
theorem d7f (h : ¬ (a9m l = true ∧ b3j l s)) : c2b l s = (ev0, false) := if_neg h

def b2a (n : Nd) : Nat → Int
 | 0 => 41
 | k + 1 => match n.lanes[k]? with
  | some l => if (a3z l (s6s n l.proc)).2 = true ∧ (a3z l (s6s n l.proc)).1.time < b2a n k then (a3z l (s6s n l.proc)).1.time else b2a n k
  | none => b2a n k
theorem d7g (h : n.lanes[k]? = some l) (h2 : (a3z l (s6s n l.proc)).2 = true ∧ (a3z l (s6s n l.proc)).1.time < b2a n k) : b2a n (k + 1) = (a3z l (s6s n l.proc)).1.time := by
 show (match n.lanes[k]? with | some l => _ | none => _) = _
 rw [h]; exact if_pos h2
theorem c5a (h : n.lanes[k]? = some l) (h2 : ¬ ((a3z l (s6s n l.proc)).2 = true ∧ (a3z l (s6s n l.proc)).1.time < b2a n k)) : b2a n (k + 1) = b2a n k := by
 show (match n.lanes[k]? with | some l => _ | none => _) = _
 rw [h]; exact if_neg h2
def e2d (n : Nd) : Int := b2a n n.lanes.length
open Classical in
noncomputable def b7c (n : Nd) : Int := if w3w n then e2d n else 0
theorem c0n (h : w3w n) : b7c n = e2d n := if_pos h
theorem d7h (h : ¬ w3w n) : b7c n = 0 := if_neg h

theorem c8p (h : w3w n) {i : Nat} (hl : n.lanes[i]? = some l) : (a0j n.id 4)[i]? = some l.proc ∧ a9m l = true ∧ b3j l (s6s n l.proc) ∧ l.done.length ≤ same l.done (s6s n l.proc) := by
 obtain ⟨h1, h2⟩ := h.1.2.2.2.2.2.2.2.1 i l hl
 obtain ⟨h3, h4⟩ := h.2 i l.proc l h1 hl
 exact ⟨h1, h2, d7a h.1 h4, h3⟩
def e6p (n : Nd) (r : Int) : Wo := ⟨3, n.id, 0, n.inc, 0, r, e2d n, n.views.map Vi.inc, n.views.map Vi.version, [], []⟩
open Classical in
noncomputable def x7x (n : Nd) (r : Int) : Nd × Wo × Bool := if w3w n then (if n.up = true ∧ n.round + 1 ≤ r ∧ r ≤ 9999 then ({ n with round := r, low := 41 }, e6p n r, true) else (n, wo0, false)) else (nd0, wo0, false)
theorem d2b (h : ¬ w3w n) : x7x n r = (nd0, wo0, false) := if_neg h
theorem b8w (h : w3w n) (h2 : ¬ (n.up = true ∧ n.round + 1 ≤ r ∧ r ≤ 9999)) : x7x n r = (n, wo0, false) := by unfold x7x; rw [if_pos h, if_neg h2]
theorem d2c (h : w3w n) (h2 : n.up = true ∧ n.round + 1 ≤ r ∧ r ≤ 9999) : x7x n r = ({ n with round := r, low := 41 }, e6p n r, true) := by unfold x7x; rw [if_pos h, if_pos h2]
theorem c8q (n : Nd) (r : Int) : cNd (x7x n r).1 ≤ 3000 ∧ zWl (x7x n r).2.1 ≤ 1000 := by
 unfold x7x
 split
 ·rename_i h
  have hb := v2v h.1
  have hv := h.1.2.2.2.2.2.1
  split
  ·refine ⟨?_, ?_⟩
   ·have : cNd ({ n with round := r, low := 41 } : Nd) = cNd n := rfl
    show cNd ({ n with round := r, low := 41 } : Nd) ≤ 3000
    omega
   ·simp only [zWl, e6p, d0f, e2b, e2c, List.length_map, List.length_nil]; omega
  ·exact ⟨by show cNd n ≤ 3000; omega, by show zWl wo0 ≤ 1000; decide⟩
 ·exact ⟨by show cNd nd0 ≤ 3000; decide, by show zWl wo0 ≤ 1000; decide⟩
end
section
section
variable {α : Type} {lt : α → α → Bool}
theorem c3m : ∀ {a b : List α}, (∀ y ∈ a, lt x y = false) → (∀ y ∈ b, lt x y = true) → d1s lt x (a ++ b) = a ++ x :: b
 | [], [], _, _ => rfl
 | [], y :: b, _, hb => by
  have h := hb y (List.mem_cons_self ..)
  simp only [List.nil_append, d1s, h, if_true]
 | y :: a, b, ha, hb => by
  have h := ha y (List.mem_cons_self ..)
  simp only [List.cons_append, d1s, h, Bool.false_eq_true, if_false]
  rw [c3m (fun z hz => ha z (List.mem_cons_of_mem _ hz)) hb]
theorem e4f (O : STO lt) (h : WS lt o) (hk : ∀ (j : Nat) y, k ≤ j → o[j]? = some y → lt x y = true) (hl : ∀ y, 0 < k → o[k - 1]? = some y → lt x y = false) (hk2 : k ≤ o.length) : d1s lt x o = o.take k ++ x :: o.drop k := by
 conv => lhs; rw [← List.take_append_drop k o]
 refine c3m (fun y hy => ?_) (fun y hy => ?_)
 ·obtain ⟨j, hj⟩ := List.getElem?_of_mem hy
  rw [List.getElem?_take] at hj
  split at hj
  ·rename_i hjk
   have hkl : k - 1 < o.length := by omega
   obtain ⟨z, hz⟩ : ∃ z, o[k - 1]? = some z := ⟨_, List.getElem?_eq_getElem hkl⟩
   have q1 := hl z (by omega) hz
   by_cases e : j = k - 1
   ·subst e; rw [hj] at hz; cases hz; exact q1
   ·have hzy : lt z y = false := by
     obtain ⟨p1, rfl⟩ := List.getElem?_eq_some_iff.1 hj
     obtain ⟨p2, rfl⟩ := List.getElem?_eq_some_iff.1 hz
     exact List.pairwise_iff_getElem.1 h j (k - 1) p1 p2 (by omega)
    cases hxy : lt x y with
    | false => rfl
    | true =>
     by_cases ez : y = z
     ·subst ez; rw [q1] at hxy; cases hxy
     ·rcases O.tot _ _ ez with h1 | h1
      ·have := O.trans _ _ _ hxy h1
       rw [q1] at this; cases this
      ·rw [hzy] at h1; cases h1
  ·cases hj
 ·obtain ⟨j, hj⟩ := List.getElem?_of_mem hy
  rw [List.getElem?_drop] at hj
  exact hk (k + j) y (by omega) hj
end
variable {i : Nat}
theorem d0g {l : List Ou} {x : Ou} (h : l[i]? = some x) : a2f (l.take (i + 1)) = d1s a4e x (a2f (l.take i)) := by rw [z3z h]; simp [a2f, d6i]
theorem d7i (l : List Ou) : WS a4e (a2f l) := c4s e3y l
theorem c3n (l : List Ou) : (a2f l).length = l.length := (b1x l).length_eq

def c5b (u : Int) : List Pa → Nat
 | [] => 0
 | p :: d => if p.ev.time < u then c5b u d + 1 else 0
theorem c0o : ∀ {d : List Pa} {i : Nat}, i ≤ d.length → (∀ (j : Nat) p, j < i → d[j]? = some p → p.ev.time < u) → (∀ p, d[i]? = some p → ¬ p.ev.time < u) → c5b u d = i
 | [], i, h, _, _ => by simp at h; subst h; rfl
 | p :: d, 0, _, _, h3 => by unfold c5b; rw [if_neg (h3 p rfl)]
 | p :: d, i + 1, h1, h2, h3 => by
  unfold c5b
  rw [if_pos (h2 0 p (by omega) rfl), c0o (d := d) (i := i) (by simp at h1; omega) (fun j q hj hq => h2 (j + 1) q (by omega) hq) (fun q hq => h3 q hq)]
theorem c0p (u : Int) : ∀ d : List Pa, c5b u d ≤ d.length
 | [] => Nat.le_refl _
 | p :: d => by
  have := c0p u d
  unfold c5b
  split
  ·simp only [List.length_cons]; omega
  ·omega
def b0v (l : La) : Nat → St
 | 0 => l.base
 | k + 1 => match l.done[k]? with
  | some p => p.after
  | none => b0v l k
theorem c0q (h : l.done[k]? = some p) : b0v l (k + 1) = p.after := by
 show (match l.done[k]? with | some p => p.after | none => b0v l k) = _
 rw [h]

def b1j (u : Int) (l : La) : La := ⟨l.proc, b0v l (c5b u l.done), l.done.drop (c5b u l.done)⟩
def b5x (u : Int) (l : La) : List Ev := w0w ((l.done.take (c5b u l.done)).flatMap Pa.sends)
def b8d (u : Int) (l : La) : List Ou := a2f ((l.done.take (c5b u l.done)).flatMap Pa.outs)
theorem a4t {α β : Type} {f : α → List β} {m i : Nat} {d : List α} (hi : i ≤ d.length) (h : ∀ p ∈ d, (f p).length ≤ m) : ((d.take i).flatMap f).length ≤ i * m := by
 have := a1y (f := f) (k := m) (l := d.take i) fun a ha => h a (List.mem_of_mem_take ha)
 rw [List.length_take, Nat.min_eq_left hi] at this
 exact this
variable {u : Int} {l : La}
theorem d9z (h : a9m l = true) : (b5x u l).length ≤ 200 := by
 obtain ⟨h1, h2⟩ := a1z h
 have := a4t (f := Pa.sends) (m := 2) (c0p u l.done) fun p hp => (h2 p hp).1
 have h3 := c0k ((l.done.take (c5b u l.done)).flatMap Pa.sends)
 have h4 := c0p u l.done
 unfold b5x
 omega
theorem e0a (h : a9m l = true) : (b8d u l).length ≤ 200 := by
 obtain ⟨h1, h2⟩ := a1z h
 have := a4t (f := Pa.outs) (m := 2) (c0p u l.done) fun p hp => (h2 p hp).2
 have h4 := c0p u l.done
 unfold b8d
 rw [c3n]
 omega
theorem e0b (h : a9m l = true) (he : e ∈ b5x u l) : okE e = true := by
 unfold b5x w0w at he
 rw [b2w, List.mem_flatMap] at he
 obtain ⟨p, hp, he⟩ := he
 simp only [a9m, Bool.and_eq_true] at h
 have h2 := (r8r h.2).2 p (List.mem_of_mem_take hp)
 simp only [b5t, Bool.and_eq_true] at h2
 exact (r8r h2.1.2).2 e he

def b1k (u : Int) (ls : List La) (i : Nat) : List La := (ls.take i).map (b1j u) ++ ls.drop i
theorem b7d (u : Int) (ls : List La) : b1k u ls 0 = ls := by simp [b1k]
theorem c0r (u : Int) (ls : List La) : b1k u ls ls.length = ls.map (b1j u) := by simp [b1k]
theorem c8r (u : Int) (ls : List La) (h : i ≤ ls.length) : (b1k u ls i).length = ls.length := by simp [b1k]; omega
theorem b8x (h : ls[i]? = some l) : (b1k u ls i)[i]? = some l := by
 have hlt := (List.getElem?_eq_some_iff.1 h).1
 unfold b1k
 rw [List.getElem?_append_right (by rw [List.length_map, List.length_take]; omega), List.length_map, List.length_take, List.getElem?_drop, Nat.min_eq_left (by omega)]
 simpa using h
theorem c0s (h : ls[i]? = some l) : (b1k u ls i).set i (b1j u l) = b1k u ls (i + 1) := by
 have hlt := (List.getElem?_eq_some_iff.1 h).1
 have hl : ((ls.take i).map (b1j u)).length = i := by rw [List.length_map, List.length_take]; omega
 unfold b1k
 rw [v1v h, List.set_append_right _ _ (by omega), hl, Nat.sub_self, List.set_cons_zero, z3z h, List.map_append, List.append_assoc]
 rfl
def a1t (n : Nd) (g : Int) (i : Nat) : List Ev := n.kept ++ (n.lanes.take i).flatMap (b5x g)
def a8d (n : Nd) (g : Int) (i : Nat) : List Ou := n.outs ++ (n.lanes.take i).flatMap (b8d g)
theorem b0h (h : n.lanes[i]? = some l) : a1t n g (i + 1) = a1t n g i ++ b5x g l := by
 rw [a1t, a1s h, ← List.append_assoc]; rfl
theorem b0i (h : n.lanes[i]? = some l) : a8d n g (i + 1) = a8d n g i ++ b8d g l := by
 rw [a8d, a1s h, ← List.append_assoc]; rfl
theorem c0t (n : Nd) (g : Int) : a1t n g 0 = n.kept := by simp [a1t]
theorem c0u (n : Nd) (g : Int) : a8d n g 0 = n.outs := by simp [a8d]
theorem c0v (h : a1n n) : ∀ l ∈ n.lanes, a9m l = true := fun l hl => by
 obtain ⟨i, hi⟩ := List.getElem?_of_mem hl
 exact (h.2.2.2.2.2.2.2.1 i l hi).2
theorem b5y (h : a1n n) (g : Int) (i : Nat) : (a1t n g i).length ≤ 900 := by
 have hb := v2v h
 have := a1y (f := b5x g) (k := 200) (l := n.lanes.take i) fun l hl => d9z (c0v h l (List.mem_of_mem_take hl))
 rw [List.length_take] at this
 have h3 : min i n.lanes.length ≤ 4 := by omega
 have h4 : min i n.lanes.length * 200 ≤ 4 * 200 := Nat.mul_le_mul_right _ h3
 simp only [a1t, List.length_append]; omega
theorem b5z (h : a1n n) (g : Int) (i : Nat) : (a8d n g i).length ≤ 900 := by
 have hb := v2v h
 have := a1y (f := b8d g) (k := 200) (l := n.lanes.take i) fun l hl => e0a (c0v h l (List.mem_of_mem_take hl))
 rw [List.length_take] at this
 have h3 : min i n.lanes.length ≤ 4 := by omega
 have h4 : min i n.lanes.length * 200 ≤ 4 * 200 := Nat.mul_le_mul_right _ h3
 simp only [a8d, List.length_append]; omega
theorem c8s (h : a1n n) (he : e ∈ a1t n g i) : okE e = true := by
 rcases List.mem_append.1 he with he | he
 ·exact (r8r h.2.1).2 e he
 ·obtain ⟨l, hl, he⟩ := List.mem_flatMap.1 he
  exact e0b (c0v h l (List.mem_of_mem_take hl)) he
def d2e (n : Nd) (g : Int) : List La := n.lanes.map (b1j g)

def b2c (kn : List Int) (e : Ev) : Bool := decide (kn.getD (q0q e.to).toNat 0 ≤ e.time)
theorem d2f (h : okE e = true) (h3 : kn.length = 3) : ∃ (k : Nat) (v : Int), q0q e.to = (k : Int) ∧ kn[k]? = some v ∧ b2c kn e = decide (v ≤ e.time) := by
 have hb : 0 ≤ e.to ∧ e.to ≤ 3 := by
  have h' : b8v e := of_decide_eq_true h
  exact h'.2.1
 have hn : q0q e.to = e.to.tmod 3 := if_pos hb
 have ht : 0 ≤ e.to.tmod 3 ∧ e.to.tmod 3 < 3 := by
  have : e.to = 0 ∨ e.to = 1 ∨ e.to = 2 ∨ e.to = 3 := by omega
  rcases this with h | h | h | h <;> rw [h] <;> decide
 obtain ⟨v, hv⟩ : ∃ v, kn[(q0q e.to).toNat]? = some v := ⟨_, List.getElem?_eq_getElem (by rw [hn]; omega)⟩
 refine ⟨(q0q e.to).toNat, v, by rw [hn]; omega, hv, ?_⟩
 unfold b2c
 rw [List.getD_eq_getElem?_getD, hv]; rfl
theorem e4g {g : Int} (h : (d2e n g)[i]? = some l) : ∃ l0, n.lanes[i]? = some l0 ∧ l = b1j g l0 := by
 unfold d2e at h
 rw [List.getElem?_map] at h
 cases h2 : n.lanes[i]? with
 | none => rw [h2] at h; cases h
 | some l0 => rw [h2] at h; cases h; exact ⟨l0, rfl, rfl⟩
theorem c5d (p : Ev → Bool) (l : List Ev) : w0w (l.filter p) = (w0w l).filter p := by
 refine SS.uniq c8e (b5u _) (List.Pairwise.filter p (b5u l)) fun e => ?_
 unfold w0w
 rw [b2w, List.mem_filter, List.mem_filter, b2w]
def p3p (n : Nd) (g : Int) : Nd := { n with g := g, lanes := n.lanes.map (b1j g), kept := w0w ((a1t n g n.lanes.length).filter (b2c (n.known.set n.id.toNat g))), outs := a2f (a8d n g n.lanes.length), known := n.known.set n.id.toNat g }
def a4f (n : Nd) (r g : Int) : Prop := n.up = true ∧ 1 ≤ r ∧ r = n.round ∧ n.g + 1 ≤ g ∧ g ≤ 41 ∧ g ≤ n.low ∧ g ≤ e2d n ∧ n.version < 9999
open Classical in
noncomputable def q2q (n n' : Nd) : Nd × Bool := if w3w n' then (n', true) else (n, false)
theorem c0w (h : w3w n') : q2q n n' = (n', true) := if_pos h
theorem c0x (h : ¬ w3w n') : q2q n n' = (n, false) := if_neg h
open Classical in
noncomputable def z4z (n : Nd) (r g : Int) : Nd × Bool := if w3w n then (if a4f n r g then q2q n (p3p n g) else (n, false)) else (nd0, false)
theorem d2g (h : ¬ w3w n) : z4z n r g = (nd0, false) := if_neg h
theorem a1o (h : w3w n) (h2 : ¬ a4f n r g) : z4z n r g = (n, false) := by unfold z4z; rw [if_pos h, if_neg h2]
theorem c5e (h : w3w n) (h2 : a4f n r g) : z4z n r g = q2q n (p3p n g) := by unfold z4z; rw [if_pos h, if_pos h2]
theorem b7z (h : w3w n) : cNd (q2q n n').1 ≤ 3000 := by
 unfold q2q
 split
 ·rename_i h2; have := v2v h2.1; show cNd n' ≤ 3000; omega
 ·have := v2v h.1; show cNd n ≤ 3000; omega
theorem c8t (n : Nd) (r g : Int) : cNd (z4z n r g).1 ≤ 3000 := by
 unfold z4z
 split
 ·rename_i h
  split
  ·exact b7z h
  ·have := v2v h.1; show cNd n ≤ 3000; omega
 ·show cNd nd0 ≤ 3000; decide
theorem e2f (h : a1n n) : ∃ k : Nat, n.id = (k : Int) ∧ k < 3 ∧ n.id.toNat = k := by
 have := h.1
 simp only [a7h] at this
 exact ⟨n.id.toNat, by omega, by omega, rfl⟩
theorem c3o (l : List α) (i : Nat) : (l.take ((l.map f).length : Int).toNat).drop (i : Int).toNat = l.drop i := by simp
end
section

def wk (n : Nd) : Prop := n.lanes.length ≤ 4 ∧ n.kept.length ≤ 100 ∧ n.views.length = 3 ∧ n.known.length = 3 ∧ (∀ l ∈ n.lanes, l.done.length ≤ 100 ∧ ∀ p ∈ l.done, p.sends.length ≤ 32 ∧ p.outs.length ≤ 32) ∧ (∀ v ∈ n.views, v.events.length ≤ 100) ∧ (∀ (i : Nat) l, n.lanes[i]? = some l → (a0j n.id 4)[i]? = some l.proc)
theorem e0c (h : a1n n) : wk n := by
 have hb := v2v h
 obtain ⟨q1, q2, q3, q4, q5, q6, q7, q8, q9⟩ := h
 refine ⟨by omega, by omega, q6, q7, fun l hm => ?_, fun v hm => ?_, fun i l hl => (q8 i l hl).1⟩
 ·obtain ⟨i, hi⟩ := List.getElem?_of_mem hm
  obtain ⟨e1, e2⟩ := a1z (q8 i l hi).2
  exact ⟨e1, fun p hp => ⟨by have := (e2 p hp).1; omega, by have := (e2 p hp).2; omega⟩⟩
 ·obtain ⟨i, hi⟩ := List.getElem?_of_mem hm
  have hlt := (List.getElem?_eq_some_iff.1 hi).1
  obtain ⟨k, hk⟩ : ∃ k, n.known[i]? = some k := ⟨_, List.getElem?_eq_getElem (by omega)⟩
  have := (r8r (q9 i v k hi hk).1.2.2).1
  omega
theorem c5f (h : wk n) : (r7r n).length ≤ 13000 := by
 have := a1y (f := a8l) (k := 3200) (l := n.lanes) fun l hl => by
  obtain ⟨h1, h2⟩ := h.2.2.2.2.1 l hl
  have := a1y (f := Pa.sends) (k := 32) (l := l.done) fun p hp => (h2 p hp).1
  simp only [a8l]; omega
 have h1 := h.1
 have h2 := h.2.1
 simp only [r7r, List.length_append]; omega
theorem e0d (h : wk n) : (r1r n 3).length ≤ 300 := by
 have := a1y (f := b0g n) (k := 100) (l := List.range 3) fun j hj => by
  rw [List.mem_range] at hj
  unfold b0g
  split
  ·simp
  ·obtain ⟨v, hv⟩ : ∃ v, n.views[j]? = some v := ⟨_, List.getElem?_eq_getElem (by have := h.2.2.1; omega)⟩
   rw [List.getD_eq_getElem?_getD, hv]
   exact h.2.2.2.2.2.1 v (List.mem_of_getElem? hv)
 simpa [r1r] using this
theorem d7j (h : wk n) : (r7r n).length + (r1r n 3).length ≤ 5000000 := by
 have := c5f h
 have := e0d h
 omega

def nl (n : Nd) (ls : List La) : Nd := { n with lanes := ls }
def keep (n : Nd) (ls : List La) (l : La) : Nat := same l.done (s6s (nl n ls) l.proc)
theorem e4h (n : Nd) (ls : List La) (l : La) : keep n ls l ≤ l.done.length := (b5w _ _).2
def b6a (n : Nd) (ls : List La) (i : Nat) : List La := match ls[i]? with
 | some l => if keep n ls l < l.done.length then ls.set i (a0x l 0 (keep n ls l)) else ls
 | none => ls
def d8m (n : Nd) (ls : List La) (i : Nat) : Bool := match ls[i]? with
 | some l => decide (keep n ls l < l.done.length)
 | none => false
theorem d0h (h : ls[i]? = some l) (h2 : keep n ls l < l.done.length) : b6a n ls i = ls.set i (a0x l 0 (keep n ls l)) ∧ d8m n ls i = true := by
 constructor
 ·show (match ls[i]? with | some l => _ | none => _) = _
  rw [h]; exact if_pos h2
 ·show (match ls[i]? with | some l => _ | none => _) = _
  rw [h]; exact decide_eq_true h2
theorem d0i (h : ls[i]? = some l) (h2 : ¬ keep n ls l < l.done.length) : b6a n ls i = ls ∧ d8m n ls i = false := by
 constructor
 ·show (match ls[i]? with | some l => _ | none => _) = _
  rw [h]; exact if_neg h2
 ·show (match ls[i]? with | some l => _ | none => _) = _
  rw [h]; exact decide_eq_false h2
theorem e4i (h : ls[i]? = none) : b6a n ls i = ls ∧ d8m n ls i = false := by
 constructor
 ·show (match ls[i]? with | some l => _ | none => _) = _
  rw [h]
 ·show (match ls[i]? with | some l => _ | none => _) = _
  rw [h]
theorem b2d (n : Nd) (ls : List La) (i : Nat) : (b6a n ls i = ls ∧ d8m n ls i = false) ∨ ∃ l, ls[i]? = some l ∧ keep n ls l < l.done.length ∧ b6a n ls i = ls.set i (a0x l 0 (keep n ls l)) ∧ d8m n ls i = true := by
 cases h : ls[i]? with
 | none => exact .inl (e4i h)
 | some l =>
  by_cases h2 : keep n ls l < l.done.length
  ·exact .inr ⟨l, rfl, h2, d0h h h2⟩
  ·exact .inl (d0i h h2)
def c5g (ls : List La) : Nat := (ls.map fun l => l.done.length).sum
theorem d7k (f : α → Nat) : ∀ {l : List α} {i : Nat} {a b : α}, l[i]? = some a → ((l.set i b).map f).sum + f a = (l.map f).sum + f b
 | [], i, a, b, h => by simp at h
 | x :: r, 0, a, b, h => by
  simp at h; subst h
  simp only [List.set_cons_zero, List.map_cons, List.sum_cons]; omega
 | x :: r, i + 1, a, b, h => by
  have := d7k f (l := r) (i := i) (a := a) (b := b) (by simpa using h)
  simp only [List.set_cons_succ, List.map_cons, List.sum_cons]; omega
theorem e0f (h : k ≤ l.done.length) : (a0x l 0 k).done.length = k := by simp [a0x]; omega
theorem d3n (n : Nd) (ls : List La) (i : Nat) : c5g (b6a n ls i) ≤ c5g ls ∧ (d8m n ls i = true → c5g (b6a n ls i) < c5g ls) := by
 rcases b2d n ls i with ⟨h1, h2⟩ | ⟨l, h0, h3, h1, h2⟩
 ·rw [h1, h2]; exact ⟨Nat.le_refl _, fun h => by cases h⟩
 ·have := d7k (fun l => l.done.length) (b := a0x l 0 (keep n ls l)) h0
  have h4 := e0f (l := l) (k := keep n ls l) (by omega)
  simp only [h4] at this
  rw [h1]
  unfold c5g
  exact ⟨by omega, fun _ => by omega⟩
def a0b (n : Nd) (ls : List La) : Nat → List La
 | 0 => ls
 | i + 1 => b6a n (a0b n ls i) i
def b0j (n : Nd) (ls : List La) : Nat → Bool
 | 0 => false
 | i + 1 => b0j n ls i || d8m n (a0b n ls i) i
theorem b6c (n : Nd) (ls : List La) : ∀ i, c5g (a0b n ls i) ≤ c5g ls ∧ (b0j n ls i = true → c5g (a0b n ls i) < c5g ls)
 | 0 => ⟨Nat.le_refl _, fun h => by cases h⟩
 | i + 1 => by
  obtain ⟨h1, h2⟩ := b6c n ls i
  obtain ⟨h3, h4⟩ := d3n n (a0b n ls i) i
  refine ⟨Nat.le_trans h3 h1, fun h => ?_⟩
  have h : b0j n ls i = true ∨ d8m n (a0b n ls i) i = true := by simpa [b0j] using h
  show c5g (b6a n (a0b n ls i) i) < c5g ls
  rcases h with h | h
  ·exact Nat.lt_of_le_of_lt h3 (h2 h)
  ·exact Nat.lt_of_lt_of_le (h4 h) h1
theorem c8u (n : Nd) (ls : List La) : ∀ i, b0j n ls i = false → a0b n ls i = ls
 | 0, _ => rfl
 | i + 1, h => by
  have h : b0j n ls i = false ∧ d8m n (a0b n ls i) i = false := by simpa [b0j] using h
  show b6a n (a0b n ls i) i = ls
  rcases b2d n (a0b n ls i) i with ⟨h1, h2⟩ | ⟨l, h0, h3, h1, h2⟩
  ·rw [h1, c8u n ls i h.1]
  ·rw [h.2] at h2; cases h2
theorem d7l (n : Nd) (ls : List La) (i : Nat) : (b6a n ls i).length = ls.length := by
 rcases b2d n ls i with ⟨h1, h2⟩ | ⟨l, h0, h3, h1, h2⟩
 ·rw [h1]
 ·rw [h1, List.length_set]
theorem b6d (n : Nd) (ls : List La) : ∀ i, (a0b n ls i).length = ls.length
 | 0 => rfl
 | i + 1 => (d7l n (a0b n ls i) i).trans (b6d n ls i)
theorem c8v (hf : ∀ l k, f (a0x l 0 k) = f l) (n : Nd) (ls : List La) (i : Nat) : (b6a n ls i).map f = ls.map f := by
 rcases b2d n ls i with ⟨h1, h2⟩ | ⟨l, h0, h3, h1, h2⟩
 ·rw [h1]
 ·rw [h1, List.map_set, hf]
  obtain ⟨h4, rfl⟩ := List.getElem?_eq_some_iff.1 h0
  apply List.ext_getElem?
  intro j
  rw [List.getElem?_set]
  by_cases e : i = j
  ·subst e; simp [h4]
  ·simp [e]

def v6v (n : Nd) (ls : List La) : List La := if h : b0j n ls ls.length = true then v6v n (a0b n ls ls.length) else ls
termination_by c5g ls
decreasing_by exact (b6c n ls ls.length).2 h
theorem c5h (h : b0j n ls ls.length = true) : v6v n (a0b n ls ls.length) = v6v n ls := by
 conv => rhs; unfold v6v
 rw [dif_pos h]
theorem c5i (h : b0j n ls ls.length = false) : a0b n ls ls.length = v6v n ls := by
 conv => rhs; unfold v6v
 rw [dif_neg (by rw [h]; decide)]
 exact c8u n ls _ h
theorem a9n (n : Nd) (ls : List La) (i : Nat) : a0b n ls (i + 1) = b6a n (a0b n ls i) i := rfl
theorem b2y (n : Nd) (ls : List La) (i : Nat) : b0j n ls (i + 1) = (b0j n ls i || d8m n (a0b n ls i) i) := rfl
theorem d7m (n : Nd) (ls : List La) (i : Nat) : 2 * c5g (a0b n ls i) + (b0j n ls i).toNat < 2 * c5g ls + 1 := by
 obtain ⟨h1, h2⟩ := b6c n ls i
 cases h : b0j n ls i with
 | false => show 2 * c5g (a0b n ls i) + 0 < _; omega
 | true => have := h2 h; show 2 * c5g (a0b n ls i) + 1 < _; omega
theorem e6q (h : wk (nl n ls)) (hl : ls[i]? = some l) : wk (nl n (ls.set i (a0x l 0 k))) := by
 obtain ⟨h1, h2, h3, h4, h5, h6, h7⟩ := h
 refine ⟨by show (ls.set i _).length ≤ 4; rw [List.length_set]; exact h1, h2, h3, h4, fun m hm => ?_, h6, fun j m hm => ?_⟩
 ·rcases List.mem_or_eq_of_mem_set hm with hm | hm
  ·exact h5 m hm
  ·subst hm
   obtain ⟨g1, g2⟩ := h5 l (List.mem_of_getElem? hl)
   refine ⟨?_, fun p hp => g2 p ?_⟩
   ·simp only [a0x, List.drop_zero, List.length_take]; omega
   ·simp only [a0x, List.drop_zero] at hp
    exact List.mem_of_mem_take hp
 ·have hm2 : (ls.set i (a0x l 0 k))[j]? = some m := hm
  clear hm
  rw [List.getElem?_set] at hm2
  split at hm2
  ·rename_i e
   subst e
   split at hm2
   ·cases hm2
    show (a0j n.id 4)[i]? = some l.proc
    exact h7 i l hl
   ·cases hm2
  ·exact h7 j m hm2
theorem e4j (h : wk (nl n ls)) (i : Nat) : wk (nl n (b6a n ls i)) := by
 rcases b2d n ls i with ⟨h1, h2⟩ | ⟨l, h0, h3, h1, h2⟩
 ·rw [h1]; exact h
 ·rw [h1]; exact e6q h h0
theorem b4m (h : wk (nl n ls)) : ∀ i, wk (nl n (a0b n ls i))
 | 0 => h
 | i + 1 => e4j (b4m h i) i
theorem c5j : ∀ (k : Nat) {ls : List La}, c5g ls ≤ k → wk (nl n ls) → wk (nl n (v6v n ls))
 | k, ls, hk, h => by
  cases hm : b0j n ls ls.length with
  | false => rw [← c5i hm]; exact b4m h _
  | true =>
   have hd := (b6c n ls ls.length).2 hm
   rw [← c5h hm]
   cases k with
   | zero => omega
   | succ k => exact c5j k (by omega) (b4m h _)

def s4s (n : Nd) : Nat → List (List Ev)
 | 0 => []
 | k + 1 => if (k : Int) = n.id then s4s n k else s4s n k ++ [a2p n (k : Int)]
variable {n : Nd} {k : Nat}
theorem c5k (h : ¬ (k : Int) = n.id) : s4s n (k + 1) = s4s n k ++ [a2p n (k : Int)] := if_neg h
theorem c5l (h : (k : Int) = n.id) : s4s n (k + 1) = s4s n k := if_pos h
theorem c8w (n : Nd) : ∀ k, (s4s n k).length ≤ k
 | 0 => Nat.le_refl _
 | k + 1 => by
  have := c8w n k
  unfold s4s
  split
  ·omega
  ·simp; omega
theorem c3p (h : a.id = b.id) : ∀ k, (s4s a k).length = (s4s b k).length
 | 0 => rfl
 | k + 1 => by
  have := c3p h k
  unfold s4s
  rw [h]
  split
  ·exact this
  ·simp only [List.length_append, this, List.length_cons, List.length_nil]
theorem c0y {a b : Nd} (h : a.id = b.id) (hk : ¬ (k : Int) = b.id) : s4s a (k + 1) = s4s b (k + 1) ↔ s4s a k = s4s b k ∧ a2p a (k : Int) = a2p b (k : Int) := by
 rw [c5k hk, c5k (by rw [h]; exact hk)]
 constructor
 ·intro e
  obtain ⟨e1, e2⟩ := List.append_inj e (c3p h k)
  exact ⟨e1, (List.cons.inj e2).1⟩
 ·rintro ⟨e1, e2⟩; rw [e1, e2]
def a3m (was n : Nd) (k : Nat) : Int := if s4s was k = s4s n k then n.version else was.version + 1
theorem e4k (h : was.id = n.id) (hk : ¬ (k : Int) = n.id) (hd : ¬ a2p was (k : Int) = a2p n (k : Int)) : a3m was n (k + 1) = was.version + 1 := if_neg fun e => hd ((c0y h hk).1 e).2
theorem d7n {was n : Nd} (h : was.id = n.id) (hd : (k : Int) = n.id ∨ a2p was (k : Int) = a2p n (k : Int)) : a3m was n (k + 1) = a3m was n k := by
 unfold a3m
 by_cases hk : (k : Int) = n.id
 ·rw [c5l hk, c5l (by rw [h]; exact hk)]
 ·have e : s4s was (k + 1) = s4s n (k + 1) ↔ s4s was k = s4s n k := by
   rw [c0y h hk]
   rcases hd with hd | hd
   ·exact absurd hd hk
   ·exact ⟨fun q => q.1, fun q => ⟨q, hd⟩⟩
  by_cases q : s4s was k = s4s n k
  ·rw [if_pos q, if_pos (e.2 q)]
  ·rw [if_neg q, if_neg (fun z => q (e.1 z))]

def chg (g : Int) (o : List Ev) (m : Int) : List Ev → Int
 | [] => m
 | e :: r => chg g o (if g ≤ e.time ∧ e.time < m ∧ ¬ e ∈ o then e.time else m) r
theorem b7e (g : Int) (o : List Ev) : ∀ (l : List Ev) (m x : Int), m ≤ x → chg g o m l = min m (chg g o x l)
 | [], m, x, h => by simp only [chg]; omega
 | e :: r, m, x, h => by
  simp only [chg]
  by_cases h1 : g ≤ e.time ∧ ¬ e ∈ o
  ·by_cases h2 : e.time < m
   ·rw [if_pos ⟨h1.1, h2, h1.2⟩, if_pos ⟨h1.1, by omega, h1.2⟩]
    have := b7e g o r e.time e.time (Int.le_refl _)
    omega
   ·rw [if_neg (fun q => h2 q.2.1)]
    by_cases h3 : e.time < x
    ·rw [if_pos ⟨h1.1, h3, h1.2⟩]; exact b7e g o r m e.time (by omega)
    ·rw [if_neg (fun q => h3 q.2.1)]; exact b7e g o r m x h
  ·rw [if_neg (fun q => h1 ⟨q.1, q.2.2⟩), if_neg (fun q => h1 ⟨q.1, q.2.2⟩)]; exact b7e g o r m x h
theorem d7o (g : Int) (o : List Ev) : ∀ (l : List Ev) (m : Int), chg g o m l ≤ m
 | [], m => Int.le_refl m
 | e :: r, m => by
  simp only [chg]
  split
  ·rename_i h; exact Int.le_trans (d7o g o r e.time) (by omega)
  ·exact d7o g o r m
theorem b8y (g : Int) (a b : List Ev) (h : m ≤ 41) : chg g a (chg g b m a) b = min m (chg g a (chg g b 41 a) b) := by
 have h1 := b7e g b a m 41 h
 have h2 := b7e g a b (chg g b m a) (chg g b 41 a) (by omega)
 have h3 := d7o g a b (chg g b 41 a)
 omega
theorem a6i : ∀ {l : List Ev} {m : Int} {i : Nat} {e : Ev}, l[i]? = some e → chg g o m (l.take (i + 1)) = (if g ≤ e.time ∧ e.time < chg g o m (l.take i) ∧ ¬ e ∈ o then e.time else chg g o m (l.take i))
 | [], m, i, e, h => by simp at h
 | x :: r, m, 0, e, h => by simp at h; subst h; simp [chg]
 | x :: r, m, i + 1, e, h => by
  simp only [List.take_succ_cons, chg]
  exact a6i (l := r) (by simpa using h)
def swK {α : Type} (a b : α) (k : Nat) : α := if k = 1 then b else a
def e2g (g : Int) (a b : List Ev) : Nat → Int
 | 0 => 41
 | 1 => chg g b 41 a
 | _ => chg g a (chg g b 41 a) b
theorem d7p (h : k < 2) : e2g g a b (k + 1) = chg g (swK b a k) (e2g g a b k) (swK a b k) := by
 have : k = 0 ∨ k = 1 := by omega
 rcases this with rfl | rfl <;> rfl
theorem d2h (h : k < 2) : swK a b (k + 1) = swK b a k := by
 have : k = 0 ∨ k = 1 := by omega
 rcases this with rfl | rfl <;> rfl
end
section
def d3x (x : Ev) : List Ev → Int
 | [] => -1
 | a :: r => if x = a then 0 else (if d3x x r < 0 then -1 else d3x x r + 1)
theorem d0j : ∀ {l : List Ev}, ¬ x ∈ l → d3x x l = -1
 | [], _ => rfl
 | a :: r, h => by
  rw [List.mem_cons, not_or] at h
  unfold d3x
  rw [if_neg h.1, d0j h.2]; rfl
theorem d7q : ∀ {l : List Ev} {i : Nat}, l[i]? = some x → ¬ x ∈ l.take i → d3x x l = (i : Int)
 | [], i, h, _ => by simp at h
 | a :: r, 0, h, _ => by simp at h; unfold d3x; rw [if_pos h.symm]; rfl
 | a :: r, i + 1, h, h2 => by
  rw [List.take_succ_cons, List.mem_cons, not_or] at h2
  unfold d3x
  rw [if_neg h2.1, d7q (l := r) (i := i) (by simpa using h) h2.2, if_neg (by omega)]
  omega
theorem e0g (x : Ev) (l : List Ev) : decide (0 ≤ d3x x l) = decide (x ∈ l) := by
 by_cases h : x ∈ l
 ·have : ∀ l : List Ev, x ∈ l → 0 ≤ d3x x l := by
   intro l
   induction l with
   | nil => intro h; cases h
   | cons a r ih =>
    intro h
    unfold d3x
    by_cases e : x = a
    ·rw [if_pos e]; exact Int.le_refl 0
    ·rw [if_neg e]
     have := ih ((List.mem_cons.1 h).resolve_left e)
     rw [if_neg (by omega)]; omega
  rw [decide_eq_true h, decide_eq_true (this l h)]
 ·rw [d0j h, decide_eq_false h]; rfl
def a1j (n : Nd) (f inc ver g : Int) (es : List Ev) : Prop := n.up = true ∧ n.version < 9999 ∧ (0 ≤ f ∧ f ≤ 2) ∧ ¬ f = n.id ∧ (1 ≤ inc ∧ inc ≤ 9999) ∧ (0 ≤ ver ∧ ver ≤ 9999) ∧ (0 ≤ g ∧ g ≤ 41) ∧ a6t okE a1i es 100 = true ∧ ∀ e ∈ es, q0q e.to = n.id ∧ (e.from' = -1 ∨ q0q e.from' = f)

def b7f (v : Vi) (inc ver : Int) : Prop := v.inc < inc ∨ (inc = v.inc ∧ v.version < ver)
instance (v : Vi) (inc ver : Int) : Decidable (b7f v inc ver) := by unfold b7f; infer_instance
def b6e (n : Nd) (f : Nat) (inc ver g : Int) (es : List Ev) : Nd :=
 let old := n.views.getD f vi0
 let m : Nd := { n with known := n.known.set f (max (n.known.getD f 0) g) }
 if b7f old inc ver then { m with low := chg n.g old.events (chg n.g es n.low old.events) es, views := n.views.set f ⟨inc, ver, es⟩ } else m
def c0z (n m : Nd) : Nd := { nl m (v6v m m.lanes) with version := a3m n (nl m (v6v m m.lanes)) 3 }
open Classical in
noncomputable def w5w (n : Nd) (f inc ver g : Int) (es : List Ev) : Nd := if w3w n then (if a1j n f inc ver g es then (q2q n (c0z n (b6e n f.toNat inc ver g es))).1 else n) else nd0
theorem e2h (h : ¬ w3w n) : w5w n f inc ver g es = nd0 := if_neg h
theorem b3k (h : w3w n) (h2 : ¬ a1j n f inc ver g es) : w5w n f inc ver g es = n := by unfold w5w; rw [if_pos h, if_neg h2]
theorem d7r {f : Nat} {inc ver g : Int} (h : w3w n) (h2 : a1j n (f : Int) inc ver g es) : w5w n (f : Int) inc ver g es = (q2q n (c0z n (b6e n f inc ver g es))).1 := by
 unfold w5w; rw [if_pos h, if_pos h2]; rfl
theorem d3o (n : Nd) (f inc ver g : Int) (es : List Ev) : cNd (w5w n f inc ver g es) ≤ 3000 := by
 unfold w5w
 split
 ·rename_i h
  split
  ·exact b7z h
  ·have := v2v h.1; omega
 ·show cNd nd0 ≤ 3000; decide
theorem q3q (hv : n.views[f]? = some v) (hk : n.known[f]? = some k) (h : b7f v inc ver) : b6e n f inc ver g es = { n with known := n.known.set f (max k g), low := chg n.g v.events (chg n.g es n.low v.events) es, views := n.views.set f ⟨inc, ver, es⟩ } := by
 have e1 : n.views.getD f vi0 = v := by rw [List.getD_eq_getElem?_getD, hv]; rfl
 have e2 : n.known.getD f 0 = k := by rw [List.getD_eq_getElem?_getD, hk]; rfl
 unfold b6e
 simp only [e1, e2]
 rw [if_pos h]
theorem a1b (hv : n.views[f]? = some v) (hk : n.known[f]? = some k) (h : ¬ b7f v inc ver) : b6e n f inc ver g es = { n with known := n.known.set f (max k g) } := by
 have e1 : n.views.getD f vi0 = v := by rw [List.getD_eq_getElem?_getD, hv]; rfl
 have e2 : n.known.getD f 0 = k := by rw [List.getD_eq_getElem?_getD, hk]; rfl
 unfold b6e
 simp only [e1, e2]
 rw [if_neg h]
theorem d7s (h : wk n) (h1 : m.lanes = n.lanes) (h2 : m.kept = n.kept) (h3 : m.views.length = 3) (h4 : m.known.length = 3) (h5 : ∀ v ∈ m.views, v.events.length ≤ 100) (h6 : m.id = n.id) : wk m := by
 obtain ⟨q1, q2, q3, q4, q5, q6, q7⟩ := h
 exact ⟨by rw [h1]; exact q1, by rw [h2]; exact q2, h3, h4, by rw [h1]; exact q5, h5, by rw [h1, h6]; exact q7⟩
theorem d2i (h : wk n) (hes : es.length ≤ 100) : wk (b6e n f inc ver g es) := by
 have hk : (n.known.set f (max (n.known.getD f 0) g)).length = 3 := by rw [List.length_set]; exact h.2.2.2.1
 unfold b6e
 dsimp only
 split
 ·refine d7s h rfl rfl (by show (n.views.set f _).length = 3; rw [List.length_set]; exact h.2.2.1) hk (fun v hv => ?_) rfl
  rcases List.mem_or_eq_of_mem_set hv with hv | hv
  ·exact h.2.2.2.2.2.1 v hv
  ·subst hv; exact hes
 ·exact d7s h rfl rfl h.2.2.1 hk h.2.2.2.2.2.1 rfl
theorem d2j (n : Nd) (f : Nat) (inc ver g : Int) (es : List Ev) : (b6e n f inc ver g es).id = n.id ∧ (b6e n f inc ver g es).version = n.version ∧ (b6e n f inc ver g es).lanes = n.lanes := by
 unfold b6e
 dsimp only
 split <;> exact ⟨rfl, rfl, rfl⟩
end
section
def r5r (p : Int) : List AV := [.pv (.int .i64 p)]
def y3y (e : Ev) : List AV := (evN e).map pI
def v8v (o : Ou) : List AV := (ouL o).map pI
def p0p (s : St) : List AV := (stL s).map pI
theorem e4l (a b : Ev) : (evN a == evN b) = decide (a = b) := by
 rw [Bool.eq_iff_iff]
 cases a; cases b
 simp [evN]
theorem e4m (x y : Operand) (a b : Ev) : EqA Tryz.prog 56 x y (.agg (y3y a)) (.agg (y3y b)) (decide (a = b)) := by
 rw [← e4l]; exact d9g Tryz.underlying56 (by kernel_rfl) (by kernel_rfl) (by kernel_rfl) x y (evN a) (evN b) rfl rfl
def a5d (c : Bool) (l : List Int) : AV := .row (.rd c) 3 1 (l.map r5r)
def w7w (c : Bool) (l : List Ev) : AV := .row (.rd c) 56 7 (l.map y3y)
def r9r (c : Bool) (l : List Ou) : AV := .row (.rd c) 141 5 (l.map v8v)
def a0t (c : Bool) (p : Pa) : List AV := y3y p.ev ++ (p0p p.after ++ [w7w c p.sends, r9r c p.outs])
def a3b (c : Bool) (l : List Pa) : AV := .row (.rd c) 58 12 (l.map (a0t c))
def q8q (c : Bool) (a : La) : List AV := pI a.proc :: (p0p a.base ++ [a3b c a.done])
def c6p (c : Bool) (l : List La) : AV := .row (.rd c) 44 5 (l.map (q8q c))
def a1f (c : Bool) (v : Vi) : List AV := [pI v.inc, pI v.version, w7w c v.events]
def c6q (c : Bool) (l : List Vi) : AV := .row (.rd c) 190 3 (l.map (a1f c))
def r4r (c : Bool) (n : Nd) : List AV := [pI n.id, .pv (.bool n.up), pI n.inc, pI n.g, c6p c n.lanes, w7w c n.kept, r9r c n.outs, pI n.led, pI n.version, c6q c n.views, a5d c n.known, pI n.round, pI n.low]
def a3g (p : Pa) : List AV := y3y p.ev ++ (p0p p.after ++ [.row .ow 56 7 (p.sends.map y3y), .row .ow 141 5 (p.outs.map v8v)])
def a0l (a : La) : List AV := pI a.proc :: (p0p a.base ++ [.row .ow 58 12 (a.done.map a3g)])
def a0u (v : Vi) : List AV := [pI v.inc, pI v.version, .row .ow 56 7 (v.events.map y3y)]
def d2k : List AV := [pI 0, pI 0, .pv (.slice none 0 0)]
theorem d3p (hc : c = true → k = true) (p : Pa) : LeL k (a3g p) (a0t c p) :=
 .cons (.cl rfl) (.cons (.cl rfl) (.cons (.cl rfl) (.cons (.cl rfl) (.cons (.cl rfl) (.cons (.cl rfl) (.cons (.cl rfl) (.cons (.cl rfl) (.cons (.cl rfl) (.cons (.cl rfl) (.cons (Le.ow_map _ hc (fun _ => rfl)) (.cons (Le.ow_map _ hc (fun _ => rfl)) .nil)))))))))))
theorem d3q (hc : c = true → k = true) (a : La) : LeL k (a0l a) (q8q c a) :=
 .cons (.cl rfl) (.cons (.cl rfl) (.cons (.cl rfl) (.cons (.cl rfl) (.cons (Le.ow_map2 _ hc (d3p hc)) .nil))))
theorem d3r (hc : c = true → k = true) (v : Vi) : LeL k (a0u v) (a1f c v) := .cons (.cl rfl) (.cons (.cl rfl) (.cons (Le.ow_map _ hc (fun _ => rfl)) .nil))
theorem nf : false = true → k = true := fun h => by cases h
theorem LendL.cls : ∀ {cs : List AV}, (cs.all AV.cl) = true → LendL h cs cs []
 | [], _ => .nil
 | a :: cs, hc => by rw [List.all_cons, Bool.and_eq_true] at hc; exact .cl hc.1 (LendL.cls hc.2)
theorem e0h (h1 : (cs.all AV.one) = true) (hc : (cs.all AV.cl) = true) (t : LendL h ls bs T) : LendL h (.agg cs :: ls) (.agg cs :: bs) T := .agg h1 (.cls hc) t
theorem b3l (h0 : y0y h i0 = some (g0, .row 44 5 (n.lanes.map a0l))) (h1 : y0y h i1 = some (g1, .row 56 7 (n.kept.map y3y))) (h2 : y0y h i2 = some (g2, .row 141 5 (n.outs.map v8v))) (h3 : y0y h i3 = some (g3, .row 190 3 (n.views.map a0u))) (h4 : y0y h i4 = some (g4, .row 3 1 (n.known.map r5r))) (t : LendL h ls bs T) :
  LendL h (.agg [pI n.id, .pv (.bool n.up), pI n.inc, pI n.g, .ref i0 g0, .ref i1 g1, .ref i2 g2, pI n.led, pI n.version, .ref i3 g3, .ref i4 g4, pI n.round, pI n.low] :: ls) (.agg (r4r false n) :: bs)
   ([(i0, (g0, .row 44 5 (n.lanes.map a0l))), (i1, (g1, .row 56 7 (n.kept.map y3y))), (i2, (g2, .row 141 5 (n.outs.map v8v))), (i3, (g3, .row 190 3 (n.views.map a0u))), (i4, (g4, .row 3 1 (n.known.map r5r)))] ++ T) :=
 .agg rfl (.cl rfl (.cl rfl (.cl rfl (.cl rfl (.ref h0 (Le.ow_map2 _ nf (d3q nf)) (.ref h1 (Le.ow_map _ nf (fun _ => rfl)) (.ref h2 (Le.ow_map _ nf (fun _ => rfl)) (.cl rfl (.cl rfl (.ref h3 (Le.ow_map2 _ nf (d3r nf)) (.ref h4 (Le.ow_map _ nf (fun _ => rfl)) (.cl rfl (.cl rfl .nil))))))))))))) t
theorem e2i (h1 : y0y h i = some (g, .row 56 7 (p.sends.map y3y))) (h2 : y0y ((i, (g, .dead)) :: h) j = some (g', .row 141 5 (p.outs.map v8v))) (hne : Nat.beq i j = false) :
  Abs [pI p.ev.time, pI p.ev.to, pI p.ev.from', pI p.ev.count, pI p.ev.n, pI p.ev.kind, pI p.ev.arg, pI p.after.x, pI p.after.y, pI p.after.count, .ref i g, .ref j g'] h (a3g p)
   [(i, (g, .row 56 7 (p.sends.map y3y))), (j, (g', .row 141 5 (p.outs.map v8v)))] [(i, (g, .dead)), (j, (g', .dead))] := by
 have hne' : i ≠ j := fun e => by subst e; rw [Nat.beq_refl] at hne; cases hne
 exact .val rfl rfl (.val rfl rfl (.val rfl rfl (.val rfl rfl (.val rfl rfl (.val rfl rfl (.val rfl rfl (.val rfl rfl (.val rfl rfl (.val rfl rfl
  (.ref h1 (y5y fun _ => rfl) (.ref h2 (y5y fun _ => rfl) .nil rfl rfl) (by rw [u8u, if_neg (Ne.symm hne')]; rfl) (by simp [Ne.symm hne'])))))))))))
theorem e2j (h1 : y0y h i = some (g, .row 58 12 (a.done.map a3g))) :
  Abs [pI a.proc, pI a.base.x, pI a.base.y, pI a.base.count, .ref i g] h (a0l a) [(i, (g, .row 58 12 (a.done.map a3g)))] [(i, (g, .dead))] :=
 .val rfl rfl (.val rfl rfl (.val rfl rfl (.val rfl rfl (.ref h1 (y5y fun _ => rfl) .nil rfl rfl))))
theorem e2k (h1 : y0y h i = some (g, .row 56 7 (v.events.map y3y))) :
  Abs [pI v.inc, pI v.version, .ref i g] h (a0u v) [(i, (g, .row 56 7 (v.events.map y3y)))] [(i, (g, .dead))] :=
 .val rfl rfl (.val rfl rfl (.ref h1 (y5y fun _ => rfl) .nil rfl rfl))
variable {α : Type}
theorem d8n [DecidableEq α] {l l' : List α} (h : ¬ l.length = l'.length) : [AV.pv (.bool false)] = [AV.pv (.bool (decide (l = l')))] := by
 rw [decide_eq_false (fun e => h (by rw [e]))]
variable {i : Nat}
theorem d8o [DecidableEq α] {l l' : List α} {x y : α} (hx : l[i]? = some x) (hy : l'[i]? = some y) (h : ¬ x = y) : [AV.pv (.bool false)] = [AV.pv (.bool (decide (l = l')))] := by
 rw [decide_eq_false (fun e => h (by subst e; rw [hx] at hy; exact Option.some.inj hy))]
theorem eqT [DecidableEq α] {l l' : List α} (h : l.take i = l'.take i) (h1 : l.length ≤ i) (h2 : l'.length ≤ i) : [AV.pv (.bool true)] = [AV.pv (.bool (decide (l = l')))] := by
 rw [List.take_of_length_le h1, List.take_of_length_le h2] at h
 rw [decide_eq_true h]
theorem a3s {l l' : List α} {x y : α} (h : l.take i = l'.take i) (hx : l[i]? = some x) (hy : l'[i]? = some y) (e : x = y) : l.take (i + 1) = l'.take (i + 1) := by
 subst e
 rw [List.take_add_one, List.take_add_one, h, hx, hy]
def d7t (p : Int) : List AV := [pI p, pI 0, pI 0, pI 0, .pv (.slice none 0 0)]
theorem d7u (p : Int) : LeL true (d7t p) (q8q true (e3z p)) := .cons (.cl rfl) (.cons (.cl rfl) (.cons (.cl rfl) (.cons (.cl rfl) (.cons .nil .nil))))
theorem kF [Decidable p] (h : ¬ p) : [AV.pv (.bool false)] = [AV.pv (.bool (decide p))] := by rw [decide_eq_false h]
theorem kT [Decidable p] (h : p) : [AV.pv (.bool true)] = [AV.pv (.bool (decide p))] := by rw [decide_eq_true h]
theorem b4n {α β : Type} {f : α → β} {l : List α} {x : α} (hx : l[i]? = some x) : (l.map f)[i]? = some (f x) := by simp [hx]
theorem evF : FindK Tryz.prog 153 (fun k => c1t (evN k)) := by
 obtain ⟨i, h1, _⟩ := (z9z _ _ w1w).info
 exact d3a Tryz.underlying153 h1 (by kernel_rfl) Tryz.underlying3 (fun _ => rfl) (fun _ _ h => d6t h)
theorem e4n (e : Ev) : LeL k (y3y e) (y3y e) := .cons (.cl rfl) (.cons (.cl rfl) (.cons (.cl rfl) (.cons (.cl rfl) (.cons (.cl rfl) (.cons (.cl rfl) (.cons (.cl rfl) .nil))))))
theorem e4o (e : Ou) : LeL k (v8v e) (v8v e) := .cons (.cl rfl) (.cons (.cl rfl) (.cons (.cl rfl) (.cons (.cl rfl) (.cons (.cl rfl) .nil))))
theorem d0k (hc : c' = true → c = true) (l : List Ev) : Le k (w7w c l) (w7w c' l) := Le.rd_map l hc e4n (fun _ => rfl)
theorem d7v (hc : c' = true → c = true) (l : List Ou) : Le k (r9r c l) (r9r c' l) := Le.rd_map l hc e4o (fun _ => rfl)
theorem d7w (hc : c' = true → c = true) (p : Pa) : LeL k (a0t c p) (a0t c' p) :=
 .cons (.cl rfl) (.cons (.cl rfl) (.cons (.cl rfl) (.cons (.cl rfl) (.cons (.cl rfl) (.cons (.cl rfl) (.cons (.cl rfl) (.cons (.cl rfl) (.cons (.cl rfl) (.cons (.cl rfl) (.cons (d0k hc _) (.cons (d7v hc _) .nil)))))))))))
theorem e4p (hc : c' = true → c = true) (l : List Pa) : Le k (a3b c l) (a3b c' l) := Le.rd_map l hc (d7w hc) (fun _ => rfl)
theorem d7x (hc : c' = true → c = true) (a : La) : LeL k (q8q c a) (q8q c' a) := .cons (.cl rfl) (.cons (.cl rfl) (.cons (.cl rfl) (.cons (.cl rfl) (.cons (e4p hc _) .nil))))
theorem d7y (hc : c' = true → c = true) (v : Vi) : LeL k (a1f c v) (a1f c' v) := .cons (.cl rfl) (.cons (.cl rfl) (.cons (d0k hc _) .nil))
theorem nfc : false = true → c = true := fun h => by cases h

theorem c5m (h0 : y0y h i0 = some (g0, .row 44 5 (n.lanes.map (q8q c)))) (h3 : y0y h i3 = some (g3, .row 190 3 (n.views.map (a1f c)))) (h4 : y0y h i4 = some (g4, .row 3 1 (n.known.map r5r))) (t : LendL h ls bs T) :
  LendL h (.agg [pI n.id, .pv (.bool n.up), pI n.inc, pI n.g, .ref i0 g0, w7w c n.kept, r9r c n.outs, pI n.led, pI n.version, .ref i3 g3, .ref i4 g4, pI n.round, pI n.low] :: ls) (.agg (r4r false n) :: bs)
   ([(i0, (g0, .row 44 5 (n.lanes.map (q8q c)))), (i3, (g3, .row 190 3 (n.views.map (a1f c)))), (i4, (g4, .row 3 1 (n.known.map r5r)))] ++ T) :=
 .agg rfl (.cl rfl (.cl rfl (.cl rfl (.cl rfl (.ref h0 (Le.ow_map2 _ nf (d7x nfc)) (.le rfl (d0k nfc _) (.le rfl (d7v nfc _) (.cl rfl (.cl rfl (.ref h3 (Le.ow_map2 _ nf (d7y nfc)) (.ref h4 (Le.ow_map _ nf (fun _ => rfl)) (.cl rfl (.cl rfl .nil))))))))))))) t
theorem e0i (e : Ev) : StrC (y3y e) := StrC.ints (evN e)
theorem e4q (e : Ou) : StrC (v8v e) := StrC.ints (ouL e)
theorem e8j (e : Int) : StrC (r5r e) := .cons (.pv _) rfl .nil
theorem e6r (p : Pa) : StrC (a3g p) := (StrC.ints (evN p.ev)).append ((StrC.ints (stL p.after)).append (.own (StrC.map e0i _) (.own (StrC.map e4q _) .nil)))
theorem e6s (a : La) : StrC (a0l a) := .cons (.pv _) rfl ((StrC.ints (stL a.base)).append (.own (StrC.map e6r _) .nil))
theorem e6t (v : Vi) : StrC (a0u v) := .cons (.pv _) rfl (.cons (.pv _) rfl (.own (StrC.map e0i _) .nil))
theorem e4r {n : Nd} {i0 i1 i2 i3 i4 g0 g1 g2 g3 g4 : Nat} {r : Hp} (t : StrH r) : StrH ((i0, (g0, .row 44 5 (n.lanes.map a0l))) :: (i1, (g1, .row 56 7 (n.kept.map y3y))) :: (i2, (g2, .row 141 5 (n.outs.map v8v))) :: (i3, (g3, .row 190 3 (n.views.map a0u))) :: (i4, (g4, .row 3 1 (n.known.map r5r))) :: r) :=
 .row (StrC.map e6s _) (.row (StrC.map e0i _) (.row (StrC.map e4q _) (.row (StrC.map e6t _) (.row (StrC.map e8j _) t))))

theorem c1a (h0 : y0y h i0 = some (g0, .row 44 5 (n.lanes.map (q8q true)))) (h3 : y0y ((i0, (g0, .dead)) :: h) i3 = some (g3, .row 190 3 (n.views.map (a1f true)))) (h4 : y0y ((i3, (g3, .dead)) :: (i0, (g0, .dead)) :: h) i4 = some (g4, .row 3 1 (n.known.map r5r))) :
  FinL h [.agg [pI n.id, .pv (.bool n.up), pI n.inc, pI n.g, .ref i0 g0, w7w true n.kept, r9r true n.outs, pI n.led, pI n.version, .ref i3 g3, .ref i4 g4, pI n.round, pI n.low]] [.agg (r4r true n)] ((i4, (g4, .dead)) :: (i3, (g3, .dead)) :: (i0, (g0, .dead)) :: h) :=
 .agg rfl (.cl rfl (.cl rfl (.cl rfl (.cl rfl (.ref h0 (Le.ow_map _ (fun _ => rfl) (fun _ => rfl)) (.cl rfl (.cl rfl (.cl rfl (.cl rfl (.ref h3 (Le.ow_map _ (fun _ => rfl) (fun _ => rfl)) (.ref h4 (Le.ow_map _ (fun _ => rfl) (fun _ => rfl)) (.cl rfl (.cl rfl .nil))))))))))))) .nil
theorem e6u : FinL h [.agg [pI 0, .pv (.bool false), pI 0, pI 0, .pv (.slice none 0 0), .pv (.slice none 0 0), .pv (.slice none 0 0), pI 0, pI 0, .pv (.slice none 0 0), .pv (.slice none 0 0), pI 0, pI 0]] [.agg (r4r true nd0)] h :=
 .agg rfl (.cl rfl (.cl rfl (.cl rfl (.cl rfl (.le rfl .nil (.le rfl .nil (.le rfl .nil (.cl rfl (.cl rfl (.le rfl .nil (.le rfl .nil (.cl rfl (.cl rfl .nil))))))))))))) .nil
theorem e8k {a b : List AV} (h : ∀ y ∈ a, Strict y) (k : ∀ y ∈ b, Strict y) : ∀ y ∈ a ++ b, Strict y := fun y hy => by
 rcases List.mem_append.1 hy with hy | hy
 ·exact h y hy
 ·exact k y hy
theorem a2i (h : Strict a) (k : ∀ y ∈ b, Strict y) : ∀ y ∈ a :: b, Strict y := fun y hy => by
 rcases List.mem_cons.1 hy with rfl | hy
 ·exact h
 ·exact k y hy
theorem e2l : ∀ y ∈ ([] : List AV), Strict y := fun y hy => by cases hy
theorem d3s (l : List Int) : ∀ y ∈ l.map pI, Strict y := fun y hy => by
 obtain ⟨n, _, rfl⟩ := List.mem_map.1 hy
 exact .pv _
theorem a9o (l : List Ev) : Strict (w7w true l) := a5h fun e => d3s (evN e)
theorem c1b (l : List Ou) : Strict (r9r true l) := a5h fun e => d3s (ouL e)
theorem b7g (l : List Int) : Strict (a5d true l) := a5h fun e => a2i (.pv _) e2l
theorem sPa (p : Pa) : ∀ y ∈ a0t true p, Strict y := e8k (d3s (evN p.ev)) (e8k (d3s (stL p.after)) (a2i (a9o _) (a2i (c1b _) e2l)))
theorem d7z (l : List Pa) : Strict (a3b true l) := a5h sPa
theorem sLa (a : La) : ∀ y ∈ q8q true a, Strict y := a2i (.pv _) (e8k (d3s (stL a.base)) (a2i (d7z _) e2l))
theorem d8a (l : List La) : Strict (c6p true l) := a5h sLa
theorem sVi (v : Vi) : ∀ y ∈ a1f true v, Strict y := a2i (.pv _) (a2i (.pv _) (a2i (a9o _) e2l))
theorem d8b (l : List Vi) : Strict (c6q true l) := a5h sVi
theorem e0j (n : Nd) : Strict (.agg (r4r true n)) :=
 .agg (a2i (.pv _) (a2i (.pv _) (a2i (.pv _) (a2i (.pv _) (a2i (d8a _) (a2i (a9o _) (a2i (c1b _) (a2i (.pv _) (a2i (.pv _) (a2i (d8b _) (a2i (b7g _) (a2i (.pv _) (a2i (.pv _) e2l)))))))))))))
def a5z (c : Bool) (w : Wo) : List AV := [pI w.kind, pI w.from', pI w.to, pI w.inc, pI w.version, pI w.round, pI w.g, a5d c w.incs, a5d c w.versions, w7w c w.events, r9r c w.outs]
def b8e (c : Bool) (l : List Wo) : AV := .row (.rd c) 79 11 (l.map (a5z c))
def a7j (w : Wo) : List AV := [pI w.kind, pI w.from', pI w.to, pI w.inc, pI w.version, pI w.round, pI w.g, .row .ow 3 1 (w.incs.map r5r), .row .ow 3 1 (w.versions.map r5r), .row .ow 56 7 (w.events.map y3y), .row .ow 141 5 (w.outs.map v8v)]
theorem d3t (hc : c = true → k = true) (w : Wo) : LeL k (a7j w) (a5z c w) :=
 .cons (.cl rfl) (.cons (.cl rfl) (.cons (.cl rfl) (.cons (.cl rfl) (.cons (.cl rfl) (.cons (.cl rfl) (.cons (.cl rfl) (.cons (Le.ow_map _ hc (fun _ => rfl)) (.cons (Le.ow_map _ hc (fun _ => rfl)) (.cons (Le.ow_map _ hc (fun _ => rfl)) (.cons (Le.ow_map _ hc (fun _ => rfl)) .nil))))))))))
theorem e2m (w : Wo) : StrC (a7j w) := .cons (.pv _) rfl (.cons (.pv _) rfl (.cons (.pv _) rfl (.cons (.pv _) rfl (.cons (.pv _) rfl (.cons (.pv _) rfl (.cons (.pv _) rfl (.own (StrC.map e8j _) (.own (StrC.map e8j _) (.own (StrC.map e0i _) (.own (StrC.map e4q _) .nil))))))))))
theorem sWo (w : Wo) : ∀ y ∈ a5z true w, Strict y :=
 a2i (.pv _) (a2i (.pv _) (a2i (.pv _) (a2i (.pv _) (a2i (.pv _) (a2i (.pv _) (a2i (.pv _) (a2i (b7g _) (a2i (b7g _) (a2i (a9o _) (a2i (c1b _) e2l))))))))))
theorem d8c (l : List Wo) : Strict (b8e true l) := a5h sWo
theorem a8e : (∀ ρ g c l, inB ρ g (a5d c l) = a5d c l) ∧ (∀ ρ g c l, inC ρ g (a5d c l) = a5d c l) ∧ (∀ ρ g c l, inA ρ g (a5d c l) = a5d c l) ∧ (∀ ρ g c l, inT ρ g (a5d c l) = a5d c l) ∧ (∀ ρ g c l, inB ρ g (w7w c l) = w7w c l) ∧ (∀ ρ g c l, inC ρ g (w7w c l) = w7w c l) ∧ (∀ ρ g c l, inA ρ g (w7w c l) = w7w c l) ∧ (∀ ρ g c l, inT ρ g (w7w c l) = w7w c l) ∧ (∀ ρ g c l, inB ρ g (r9r c l) = r9r c l) ∧ (∀ ρ g c l, inC ρ g (r9r c l) = r9r c l) ∧ (∀ ρ g c l, inA ρ g (r9r c l) = r9r c l) ∧ (∀ ρ g c l, inT ρ g (r9r c l) = r9r c l) ∧ (∀ ρ g c l, inB ρ g (a3b c l) = a3b c l) ∧ (∀ ρ g c l, inC ρ g (a3b c l) = a3b c l) ∧ (∀ ρ g c l, inA ρ g (a3b c l) = a3b c l) ∧ (∀ ρ g c l, inT ρ g (a3b c l) = a3b c l) ∧ (∀ ρ g c l, inB ρ g (c6p c l) = c6p c l) ∧ (∀ ρ g c l, inC ρ g (c6p c l) = c6p c l) ∧ (∀ ρ g c l, inA ρ g (c6p c l) = c6p c l) ∧ (∀ ρ g c l, inT ρ g (c6p c l) = c6p c l) ∧ (∀ ρ g c l, inB ρ g (c6q c l) = c6q c l) ∧ (∀ ρ g c l, inC ρ g (c6q c l) = c6q c l) ∧ (∀ ρ g c l, inA ρ g (c6q c l) = c6q c l) ∧ (∀ ρ g c l, inT ρ g (c6q c l) = c6q c l) ∧ (∀ ρ g c l, inB ρ g (b8e c l) = b8e c l) ∧ (∀ ρ g c l, inC ρ g (b8e c l) = b8e c l) ∧ (∀ ρ g c l, inA ρ g (b8e c l) = b8e c l) ∧ (∀ ρ g c l, inT ρ g (b8e c l) = b8e c l) := by
 refine ⟨?_, ?_, ?_, ?_, ?_, ?_, ?_, ?_, ?_, ?_, ?_, ?_, ?_, ?_, ?_, ?_, ?_, ?_, ?_, ?_, ?_, ?_, ?_, ?_, ?_, ?_, ?_, ?_⟩ <;> intros <;> rfl
theorem c8x (h0 : y0y h i0 = some (g0, .row 3 1 (w.incs.map r5r))) (h1 : y0y h i1 = some (g1, .row 3 1 (w.versions.map r5r))) (h2 : y0y h i2 = some (g2, .row 56 7 (w.events.map y3y))) (h3 : y0y h i3 = some (g3, .row 141 5 (w.outs.map v8v))) (t : LendL h ls bs T) :
  LendL h (.agg [pI w.kind, pI w.from', pI w.to, pI w.inc, pI w.version, pI w.round, pI w.g, .ref i0 g0, .ref i1 g1, .ref i2 g2, .ref i3 g3] :: ls) (.agg (a5z false w) :: bs)
   ([(i0, (g0, .row 3 1 (w.incs.map r5r))), (i1, (g1, .row 3 1 (w.versions.map r5r))), (i2, (g2, .row 56 7 (w.events.map y3y))), (i3, (g3, .row 141 5 (w.outs.map v8v)))] ++ T) :=
 .agg rfl (.cl rfl (.cl rfl (.cl rfl (.cl rfl (.cl rfl (.cl rfl (.cl rfl (.ref h0 (Le.ow_map _ nf (fun _ => rfl)) (.ref h1 (Le.ow_map _ nf (fun _ => rfl)) (.ref h2 (Le.ow_map _ nf (fun _ => rfl)) (.ref h3 (Le.ow_map _ nf (fun _ => rfl)) .nil))))))))))) t
theorem c1d (h0 : y0y h i = some (g, .row 79 11 (l.map a7j))) (t : LendL h ls bs T) : LendL h (.ref i g :: ls) (b8e false l :: bs) ((i, (g, .row 79 11 (l.map a7j))) :: T) := .ref h0 (Le.ow_map2 _ nf (d3t nf)) t
theorem a3h (h0 : y0y h i0 = some (g0, .row 44 5 (n.lanes.map (q8q true)))) (h3 : y0y ((i0, (g0, .dead)) :: h) i3 = some (g3, .row 190 3 (n.views.map (a1f true)))) (h4 : y0y ((i3, (g3, .dead)) :: (i0, (g0, .dead)) :: h) i4 = some (g4, .row 3 1 (n.known.map r5r)))
  (t : FinL ((i4, (g4, .dead)) :: (i3, (g3, .dead)) :: (i0, (g0, .dead)) :: h) az bs h') :
  FinL h (.agg [pI n.id, .pv (.bool n.up), pI n.inc, pI n.g, .ref i0 g0, w7w true n.kept, r9r true n.outs, pI n.led, pI n.version, .ref i3 g3, .ref i4 g4, pI n.round, pI n.low] :: az) (.agg (r4r true n) :: bs) h' :=
 .agg rfl (.cl rfl (.cl rfl (.cl rfl (.cl rfl (.ref h0 (Le.ow_map _ (fun _ => rfl) (fun _ => rfl)) (.cl rfl (.cl rfl (.cl rfl (.cl rfl (.ref h3 (Le.ow_map _ (fun _ => rfl) (fun _ => rfl)) (.ref h4 (Le.ow_map _ (fun _ => rfl) (fun _ => rfl)) (.cl rfl (.cl rfl .nil))))))))))))) t
theorem d0l (t : FinL h az bs h') : FinL h (.agg [pI 0, .pv (.bool false), pI 0, pI 0, .pv (.slice none 0 0), .pv (.slice none 0 0), .pv (.slice none 0 0), pI 0, pI 0, .pv (.slice none 0 0), .pv (.slice none 0 0), pI 0, pI 0] :: az) (.agg (r4r true nd0) :: bs) h' :=
 .agg rfl (.cl rfl (.cl rfl (.cl rfl (.cl rfl (.le rfl .nil (.le rfl .nil (.le rfl .nil (.cl rfl (.cl rfl (.le rfl .nil (.le rfl .nil (.cl rfl (.cl rfl .nil))))))))))))) t
theorem d0m (t : FinL h az bs h') : FinL h (.agg [pI 0, pI 0, pI 0, pI 0, pI 0, pI 0, pI 0, .pv (.slice none 0 0), .pv (.slice none 0 0), .pv (.slice none 0 0), .pv (.slice none 0 0)] :: az) (.agg (a5z true wo0) :: bs) h' :=
 .agg rfl (.cl rfl (.cl rfl (.cl rfl (.cl rfl (.cl rfl (.cl rfl (.cl rfl (.le rfl .nil (.le rfl .nil (.le rfl .nil (.le rfl .nil .nil))))))))))) t
theorem rlM
  (L gs : List Nat) (hM : Meth Tryz.prog f m kp A0 I0 O0 U0) (hf : evO fr x = some (.fn (.func f) fi cap)) (ha : evL (evO fr) args.toList = some avs) (he : fi ++ avs ++ cap = A0.map (inT (gl L) (gl gs)))
  (k : u5u Tryz.prog tt ops r ((d, out) :: fr) (W ++ h) ((ids T, ids W) :: lg) K) (hn : L.Nodup := by decide) (hL : L.length = m := by rfl) (hT : I0.map (a3l (gl L) (gl gs)) = T := by rfl) (hi : InH h T := by repeat (first | exact InH.nil | refine InH.cons rfl ?_))
  (ho : inT (gl L) (nx kp (gl gs)) O0 = out := by first | (simp only [pI, a8b, a8e, d1r, gl, nx, c1s, Nat.beq]; rfl) | rfl) (hw : U0.map (a3l (gl L) (nx kp (gl gs))) = W := by first | (simp only [pI, a8b, a8e, d1r, gl, nx, c1s, Nat.beq]; rfl) | rfl) :
  u5u Tryz.prog tt ops (⟨some d, .call { callee := .value x, args := args, argTypes := at' }, ty, pos, af, none⟩ :: r) fr h lg K := d5f L gs hM hf ha he hn hL hT hi ho hw k
variable {id : Nat}
theorem exR (hr : u5u Tryz.prog tt ops ops.toList fr h [] fun fr' h' _ => Ex Tryz.prog n c fr' h' Q)
  (hd : (ops.toList.all fun o => match o.dst with | some d => decide (d < n) | none => true) = true := by rfl) : Ex Tryz.prog n (.seq (.region id ops false) c) fr h Q := e6h z9z hd hr
theorem exA (k : Nat) (e : c4o tt ops h k ops.toList fr [] = some (r', fr', lg', gs)) (hg : gs.map Prod.fst = gs.map Prod.snd)
  (hr : u5u Tryz.prog tt ops r' fr' h lg' fun fr' h' _ => Ex Tryz.prog n c fr' h' Q) (hd : (ops.toList.all fun o => match o.dst with | some d => decide (d < n) | none => true) = true := by rfl) : Ex Tryz.prog n (.seq (.region id ops false) c) fr h Q := e6h z9z hd (s3s k e hg hr)
end
section
variable {P : Program} {n : Nat} {fr : Fr} {h : Hp} {Q : Exit → Fr → Hp → Prop}

def d8p (P : Program) (n : Nat) (ops : Array Oper) (Q : Exit → Fr → Hp → Prop) (B : Base) (X0 : Cx) (w0 : World) (i : Nat) (fr : Fr) (h : Hp) : Prop :=
 ∀ (X : Cx) (a : Act) (w : World), X0.le X → (∀ b, X0.ok2 b → w.heap[b]? = w0.heap[b]?) → SRh X B (hf h) w → FrOK X w n fr.get a → a.defers = [] → wpOps P ops (e3m n Q B X0 w0) (List.range' i (ops.size - i)) a w
section
variable {tt : TT} {ops : Array Oper} {B : Base} {X0 : Cx} {w0 : World}
theorem e4s (hd : (ops.toList.all fun o => match o.dst with | some d => decide (d < n) | none => true) = true) : ∀ i k, p8p ops i = some k → k < n := fun i k hk => by
 simp only [p8p] at hk
 cases ho : ops[i]? with
 | none => rw [ho] at hk; cases hk
 | some o =>
  rw [ho] at hk
  rw [List.all_eq_true] at hd
  have := hd o (by rw [Array.mem_toList_iff]; exact Array.mem_of_getElem? ho)
  simp only [Option.bind_some] at hk
  rw [hk] at this
  simpa using this
theorem e6v {id : Nat} (hr : ∀ B X0 w0, d8p P n ops (c1x (fun fr h => Ex P n c fr h Q) Q) B X0 w0 0 fr h) : Ex P n (.seq (.region id ops false) c) fr h Q := by
 refine c7e (fun fr h => Ex P n c fr h Q) (fun X B a w hS hF hd => ?_) (fun _ _ h => h)
 refine wp_region ?_
 rw [List.range_eq_range']
 exact hr B X w X a w (Cx.le.refl X) (fun _ _ => rfl) hS hF hd
theorem e4t (hi : ops.size = i) (k : Q .normal fr h) : d8p P n ops Q B X0 w0 i fr h := fun X a w hX hw hS hF hdf => by
 rw [hi, Nat.sub_self]
 exact ⟨fr, h, X, k, hX, hS, hF, hdf, hw⟩

theorem e4u (htt : a1k P tt) (hd : (ops.toList.all fun o => match o.dst with | some d => decide (d < n) | none => true) = true) (m : Nat) (hl : (ops.toList.drop i).take m = l) (hm : l.length = m)
  (hr : u5u P tt ops l fr h [] fun fr' h' _ => d8p P n ops Q B X0 w0 (i + m) fr' h') : d8p P n ops Q B X0 w0 i fr h := fun X a w hX hw hS hF hdf => by
 subst hl
 obtain ⟨rs, fr', h', k1, k2, k3⟩ := a5g htt _ i fr h [] ((ops.toList.drop i).drop m) (List.take_append_drop _ _).symm hr
 have hle : i + m ≤ ops.size ∨ m = 0 := by
  rw [List.length_take, List.length_drop, Array.length_toList] at hm
  omega
 have e : List.range' i (ops.size - i) = List.range' i rs.length ++ List.range' (i + m) (ops.size - (i + m)) := by
  rw [k2, hm, List.range'_append_1]
  congr 1
  omega
 rw [e]
 refine d4j _ (e4s hd) k1 hS hF fun X' w' a' g1 g2 g3 g4 g5 => k3 X' a' w' (hX.trans g1) (fun b hb => (g4 b (hX.ok2 b hb)).trans (hw b hb)) g2 g3 (g5.trans hdf)
variable {i d m : Nat} {pos : String} {af : Array Edge} {f : FuncId} {x : Operand} {args : Array Operand} {at' : Array TypeId} {fi cap avs A0 : List AV} {I0 T : Hp} {ι : Type}

theorem e0k {ty : TypeId} {okι : ι → Prop} {kpF : ι → List Nat} {OF : ι → AV} {UF : ι → Hp}
  (L gs : List Nat) (hM : MethE P f m A0 I0 okι kpF OF UF) (ho : ops[i]? = some ⟨some d, .call { callee := .value x, args := args, argTypes := at' }, ty, pos, af, none⟩) (hf' : evO fr x = some (.fn (.func f) fi cap)) (ha : evL (evO fr) args.toList = some avs) (he : fi ++ avs ++ cap = A0.map (inT (gl L) (gl gs))) (hn : L.Nodup) (hL : L.length = m)
  (hT : I0.map (a3l (gl L) (gl gs)) = T) {out : ι → AV} {W : ι → Hp} (hout : ∀ j, inT (gl L) (nx (kpF j) (gl gs)) (OF j) = out j) (hW : ∀ j, (UF j).map (a3l (gl L) (nx (kpF j) (gl gs))) = W j)
  {X : Cx} {B : Base} {h : HF} {a : Act} {w : World} {Q : Exit → Act → World → Prop} {K : Act → World → Prop} (hS : SRh X B h w) (hin : ∀ t av, (t, av) ∈ c9p fr ⟨some d, .call { callee := .value x, args := args, argTypes := at' }, ty, pos, af, none⟩ → VR X w av (a.tmps.getD t undef)) (hent : ∀ id ge, (id, ge) ∈ T → h id = some ge)
  (hK : ∀ j, okι j → ∀ X' w' v, X.le X' → SRh X' B (a8x h (W j)) w' → (∀ b, X.ok2 b → w'.heap[b]? = w.heap[b]?) → VR X' w' (out j) v → K (a.put (p8p ops i) v) w') : wpOp P ops Q i K a w := by
 subst hT
 obtain rfl : out = fun j => inT (gl L) (nx (kpF j) (gl gs)) (OF j) := (funext hout).symm
 obtain rfl : W = fun j => (UF j).map (a3l (gl L) (nx (kpF j) (gl gs))) := (funext hW).symm
 have hC := c2z hM L (gl gs) hn hL
 rw [← he] at hC
 obtain ⟨⟨fn, code, h1, h2, h3⟩, hC⟩ := hC
 have hd : p8p ops i = some d := by simp [p8p, ho]
 rw [hd] at hK
 have hop : ∀ y ∈ (Op.call { callee := .value x, args := args, argTypes := at' }).operands, ∀ av, evO fr y = some av → VR X w av (a.eval y) := fun y hy => c3y hin (fun t ht av hav => a4i.2 ⟨⟨y, hy, ht⟩, hav⟩)
 have hxv := hop x (by simp [Op.operands, Call.operands]) _ hf'
 obtain ⟨us, vs, e1, hl1, hl2, r1, r2⟩ := hxv.fn_inv
 obtain ⟨k1, k2⟩ := b9j (X := X) (w := w) (a := a) args.toList avs ha (fun y hy => hop y (by
  simp only [Op.operands, Call.operands, Array.mem_append]
  exact .inr (by simpa using hy)))
 have hr := hC X B _ w (us ++ args.toList.map a.eval ++ vs) hS (by simp [hl1, hl2, ← k1]) (b2s (by simp [hl1, ← k1]) (b2s hl1 r1 k2) r2) hent
 have hargs : us.toArray ++ args.map a.eval ++ vs.toArray = (us ++ args.toList.map a.eval ++ vs).toArray := by
  apply Array.ext'
  simp
 unfold wpOp
 rw [ho]
 simp only [Region.wanted, if_true]
 refine .inl ?_
 unfold Oper.wp
 have hx2 : ∀ o : Oper, o.op = .call { callee := .value x, args := args, argTypes := at' } → (execOp a.eval o).run P w = .ok (.enter f (us ++ args.toList.map a.eval ++ vs).toArray) w := fun o e => by
  rw [← hargs]
  simp only [execOp, e, resolve, e1, Deferred.ofValue, Sem.run_bind, Sem.run_pure, Result.andThen_ok, invoke]
  have h4 : fn.name ≠ "runtime.NumGoroutine" := by simpa using h2
  simp [callFunc, h1, h4, h3]
 rw [hx2 _ rfl, Oper.upon_enter]
 refine hr.mono fun e w' hh => ?_
 obtain ⟨out, W, ⟨j, hj, rfl, rfl⟩, v, rfl, X', g1, g2, g3, g4⟩ := hh
 exact hK j hj X' w' v g1 g2 g3 g4

theorem e0l {ty : TypeId} {okι : ι → Prop} {kpF : ι → List Nat} {OF : ι → AV} {UF : ι → Hp}
  (L gs : List Nat) (hM : MethE P f m A0 I0 okι kpF OF UF) (ho : ops[i]? = some ⟨some d, .call { callee := .value x, args := args, argTypes := at' }, ty, pos, af, none⟩) (hdn : Nat.blt d n = true) (hf' : evO fr x = some (.fn (.func f) fi cap)) (ha : evL (evO fr) args.toList = some avs) (he : fi ++ avs ++ cap = A0.map (inT (gl L) (gl gs))) (hn : L.Nodup) (hL : L.length = m)
  (hT : I0.map (a3l (gl L) (gl gs)) = T) (hi : InH h T) {out : ι → AV} {W : ι → Hp} (hout : ∀ j, inT (gl L) (nx (kpF j) (gl gs)) (OF j) = out j) (hW : ∀ j, (UF j).map (a3l (gl L) (nx (kpF j) (gl gs))) = W j)
  (k : ∀ j, okι j → d8p P n ops Q B X0 w0 (i + 1) ((d, out j) :: fr) (W j ++ h)) : d8p P n ops Q B X0 w0 i fr h := fun X a w hX hw hS hF hdf => by
 have hlt : i < ops.size := (Array.getElem?_eq_some_iff.1 ho).1
 have hd : p8p ops i = some d := by simp [p8p, ho]
 rw [show ops.size - i = (ops.size - (i + 1)) + 1 from by omega, List.range'_succ, wpOps_cons]
 refine e0k L gs hM ho hf' ha he hn hL hT hout hW hS (fun t av hm => ?_) (fun id ge hm => hi _ hm) fun j hj X' w' v g1 g2 g3 g4 => ?_
 ·obtain ⟨v, q1, q2⟩ := hF.slot t av (a4i.1 hm).2
  rw [Array.getD_eq_getD_getElem?, q1]
  exact q2
 ·rw [← b9k] at g2
  rw [hd]
  refine k j hj X' _ w' (hX.trans g1) (fun b hb => (g3 b (hX.ok2 b hb)).trans (hw b hb)) g2 ?_ hdf
  have := (hF.mono g1 hS.ok12 g3).put (some d) g4 (fun q hq => by cases hq; exact a7w hdn)
  rw [show Fr.get ((d, out j) :: fr) = c9e fr.get (some d) (out j) from b2u fr (some d) _]
  exact this
end
end
section
variable {P : Program} {n : Nat} {fr : Fr} {h : Hp} {Q : Exit → Fr → Hp → Prop}
section
variable {ops : Array Oper} {f0 : FF} {h0 : HF}
end
structure At0 (ops : Array Oper) (fr : FF) (h : Hp) (i : Nat) (r : OR) : Prop where
 ins : ∀ t av, (t, av) ∈ r.ins → fr t = some av
 slots : ∀ t av, (t, av) ∈ r.ins → ∃ o, ops[i]? = some o ∧ ((∃ x ∈ o.op.operands, x = .tmp t) ∨ ∃ j w, o.guard = some (j, w) ∧ p8p ops j = some t)
 ent : InH h r.T
 sub : Sub r.W r.T
inductive TrP (P : Program) (ops : Array Oper) (c : Nat) : List Nat → FF → Hp → List OR → FF → Hp → Prop
 | nil {f : FF} {h : Hp} : TrP P ops c [] f h [] f h
 | cons {i : Nat} {π : List Nat} {f f' : FF} {h h' : Hp} {r : OR} {rs : List OR} (ha : At0 ops f h i r) (ho : i ≠ c → OpT P ops i r) (ht : TrP P ops c π (c9e f (p8p ops i) r.out) (d8x h r.W) rs f' h') : TrP P ops c (i :: π) f h (r :: rs) f' h'
section
variable {ops : Array Oper} {c : Nat}
theorem TrP.append (a : TrP P ops c π f h L f' h') (b : TrP P ops c π' f' h' L' f'' h'') : TrP P ops c (π ++ π') f h (L ++ L') f'' h'' := by
 induction a with
 | nil => exact b
 | cons ha ho _ ih => exact .cons ha ho (ih b)
theorem TrP.len (a : TrP P ops c π f h L f' h') : L.length = π.length := by
 induction a with
 | nil => rfl
 | cons _ _ _ ih => simp [ih]
end
end
section
structure Op_ where
 do' : Int
 a : Int
 b : Int
 c : Int
 d : Int
 deriving DecidableEq, Inhabited
structure Ru where
 kind : Int
 ops : List Op_
 deriving DecidableEq, Inhabited
structure Ap where
 rules : List Ru
 deriving DecidableEq, Inhabited
structure Hb where
 round : Int
 ones : List Wo
 twos : List Wo
 outs : List Wo
 deriving DecidableEq, Inhabited
structure Tw where
 time : Int
 apps : List Ap
 nodes : List Nd
 radio : List Wo
 hub : Hb
 sink : List Ou
 deriving DecidableEq, Inhabited
def hb0 : Hb := ⟨0, [], [], []⟩
def c8y (v : Int) : Prop := 0 ≤ v ∧ v ≤ 1
def e7o (v : Int) : Prop := 0 ≤ v ∧ v ≤ 999
instance (v : Int) : Decidable (c8y v) := by unfold c8y; infer_instance
instance (v : Int) : Decidable (e7o v) := by unfold e7o; infer_instance

def e8l (o : Op_) : Prop :=
 ((o.do' = 1 ∨ o.do' = 3) ∧ c8y o.a ∧ e7o o.b ∧ o.c = 0 ∧ o.d = 0) ∨ (o.do' = 2 ∧ c8y o.a ∧ c8y o.b ∧ o.c = 0 ∧ o.d = 0) ∨
 ((o.do' = 4 ∨ o.do' = 7) ∧ c8y o.a ∧ o.b = 0 ∧ o.c = 0 ∧ o.d = 0) ∨ (o.do' = 5 ∧ c8y o.a ∧ e7o o.b ∧ (1 ≤ o.c ∧ o.c ≤ 8) ∧ o.d = 0) ∨
 (o.do' = 6 ∧ (0 ≤ o.a ∧ o.a ≤ 3) ∧ (0 ≤ o.b ∧ o.b ≤ 3) ∧ (1 ≤ o.c ∧ o.c ≤ 40) ∧ c8y o.d)
instance (o : Op_) : Decidable (e8l o) := by unfold e8l; infer_instance
def e6w (l : List Op_) : Nat := (l.filter fun o => decide (o.do' = 6)).length
def e8m (l : List Op_) : Nat := (l.filter fun o => decide (o.do' = 7)).length
def e9z (r : Ru) : Prop := (∀ o ∈ r.ops, e8l o) ∧ r.ops.length ≤ 8 ∧ e6w r.ops ≤ 2 ∧ e8m r.ops ≤ 2

def e8n (l : List Ru) : Prop := ∀ (i : Nat) r, l[i]? = some r → (0 ≤ r.kind ∧ r.kind ≤ 3) ∧ e9z r ∧ ∀ p, 0 < i → l[i - 1]? = some p → p.kind < r.kind
def f0a (a : Ap) : Prop := a.rules.length ≤ 4 ∧ e8n a.rules
def e6x (l : List Ap) : Prop := l.length = 4 ∧ ∀ a ∈ l, f0a a
end
section
def opL (o : Op_) : List Int := [o.do', o.a, o.b, o.c, o.d]
def e4v (o : Op_) : List AV := (opL o).map pI
def e6y (c : Bool) (l : List Op_) : AV := .row (.rd c) 297 5 (l.map e4v)
def e4w (c : Bool) (r : Ru) : List AV := [pI r.kind, e6y c r.ops]
def e6z (c : Bool) (l : List Ru) : AV := .row (.rd c) 232 2 (l.map (e4w c))
def e4x (c : Bool) (a : Ap) : List AV := [e6z c a.rules]
def e7a (c : Bool) (l : List Ap) : AV := .row (.rd c) 121 1 (l.map (e4x c))
def e7b (c : Bool) (l : List Nd) : AV := .row (.rd c) 65 13 (l.map (r4r c))
def e7c (c : Bool) (w : Tw) : List AV := [pI w.time, e7a c w.apps, e7b c w.nodes, b8e c w.radio, pI w.hub.round, b8e c w.hub.ones, b8e c w.hub.twos, b8e c w.hub.outs, r9r c w.sink]
end
section

def b3d (l : List Int) : Prop := (l.length = 0 ∨ l.length = 3) ∧ ∀ v ∈ l, 0 ≤ v ∧ v ≤ 9999
instance (l : List Int) : Decidable (b3d l) := by unfold b3d; infer_instance
def s5s (w : Wo) : Prop := (1 ≤ w.kind ∧ w.kind ≤ 7) ∧ (0 ≤ w.from' ∧ w.from' ≤ 2) ∧ (0 ≤ w.to ∧ w.to ≤ 2) ∧ (0 ≤ w.inc ∧ w.inc ≤ 9999) ∧ (0 ≤ w.version ∧ w.version ≤ 9999) ∧ (0 ≤ w.round ∧ w.round ≤ 9999) ∧ (0 ≤ w.g ∧ w.g ≤ 41)
instance (w : Wo) : Decidable (s5s w) := by unfold s5s; infer_instance
def b2e (w : Wo) : Prop := s5s w ∧ b3d w.incs ∧ b3d w.versions ∧ a6t okE a1i w.events 100 = true ∧ a6t okO a4e w.outs 96 = true
instance (w : Wo) : Decidable (b2e w) := by unfold b2e; infer_instance

def e4y (l : List Wo) (kind : Int) : Prop := ∀ (i : Nat) w, l[i]? = some w → b2e w ∧ w.kind = kind ∧ ∀ p, 0 < i → l[i - 1]? = some p → p.from' < w.from'
def e8o (w : Wo) : Prop := w.incs.length = 3 ∧ w.versions.length = 3
def e8p (h : Hb) : Prop := (0 ≤ h.round ∧ h.round ≤ 9999) ∧ e4y h.ones 3 ∧ e4y h.twos 5 ∧ e4y h.outs 7 ∧ ∀ w ∈ h.ones, e8o w

def wob (w : Wo) : Prop := w.incs.length ≤ 1000000 ∧ w.versions.length ≤ 1000000 ∧ w.events.length ≤ 1000000 ∧ w.outs.length ≤ 1000000
def e7p (n : Nd) : Wo := { wo0 with kind := 5, from' := n.id, inc := n.inc, round := n.round, version := n.version }

def a3i (n : Nd) (w : Wo) : Prop := n.up = true ∧ b2e w ∧ w.to = n.id ∧ ¬ w.from' = n.id
instance (n : Nd) (w : Wo) : Decidable (a3i n w) := by unfold a3i; infer_instance
noncomputable def b2f (n : Nd) (w : Wo) : Nd × List Wo :=
 if w.kind = 1 then (w5w n w.from' w.inc w.version w.g w.events, [])
 else if w.kind = 2 then (if (x7x n w.round).2.2 = true then ((x7x n w.round).1, [(x7x n w.round).2.1]) else (n, []))
 else if w.kind = 4 then (n, if w.round = n.round ∧ 0 < w.round then [e7p n] else [])
 else if w.kind = 6 then (if w.inc = n.inc then ((z4z n w.round w.g).1, []) else (n, []))
 else (n, [])
open Classical in
noncomputable def y4y (n : Nd) (w : Wo) : Nd × List Wo := if w3w n then (if a3i n w then b2f n w else (n, [])) else (nd0, [])
theorem d8e (h : ¬ w3w n) : y4y n w = (nd0, []) := if_neg h
theorem b6f (h : w3w n) (h2 : ¬ a3i n w) : y4y n w = (n, []) := by unfold y4y; rw [if_pos h, if_neg h2]
theorem a4u (h : w3w n) (h2 : a3i n w) : y4y n w = b2f n w := by unfold y4y; rw [if_pos h, if_pos h2]
theorem d0n (h : w.kind = 1) : b2f n w = (w5w n w.from' w.inc w.version w.g w.events, []) := if_pos h
theorem c5n (h : w.kind = 2) (h2 : (x7x n w.round).2.2 = true) : b2f n w = ((x7x n w.round).1, [(x7x n w.round).2.1]) := by unfold b2f; rw [if_neg (by omega), if_pos h, if_pos h2]
theorem c5o (h : w.kind = 2) (h2 : ¬ (x7x n w.round).2.2 = true) : b2f n w = (n, []) := by unfold b2f; rw [if_neg (by omega), if_pos h, if_neg h2]
theorem c5p (h : w.kind = 4) (h2 : w.round = n.round ∧ 0 < w.round) : b2f n w = (n, [e7p n]) := by unfold b2f; rw [if_neg (by omega), if_neg (by omega), if_pos h, if_pos h2]
theorem b6g (h : w.kind = 4) (h2 : ¬ (w.round = n.round ∧ 0 < w.round)) : b2f n w = (n, []) := by unfold b2f; rw [if_neg (by omega), if_neg (by omega), if_pos h, if_neg h2]
theorem c5q (h : w.kind = 6) (h2 : w.inc = n.inc) : b2f n w = ((z4z n w.round w.g).1, []) := by unfold b2f; rw [if_neg (by omega), if_neg (by omega), if_neg (by omega), if_pos h, if_pos h2]
theorem c5r (h : w.kind = 6) (h2 : ¬ w.inc = n.inc) : b2f n w = (n, []) := by unfold b2f; rw [if_neg (by omega), if_neg (by omega), if_neg (by omega), if_pos h, if_neg h2]
theorem c5s (h1 : ¬ w.kind = 1) (h2 : ¬ w.kind = 2) (h4 : ¬ w.kind = 4) (h6 : ¬ w.kind = 6) : b2f n w = (n, []) := by unfold b2f; rw [if_neg h1, if_neg h2, if_neg h4, if_neg h6]
def d8f (n : Nd) : Prop := n.id = 0 ∧ n.up = true ∧ n.led < 9999 ∧ n.round < n.led + 1
instance (n : Nd) : Decidable (d8f n) := by unfold d8f; infer_instance
def c8z (n : Nd) (w : Wo) : Prop := n.id = 0 ∧ n.up = true ∧ b2e w ∧ w.to = 0 ∧ ¬ w.from' = 0
instance (n : Nd) (w : Wo) : Decidable (c8z n w) := by unfold c8z; infer_instance
def e9i (h : Hb) (w : Wo) : Prop := w.round = h.round ∧ ¬ w.incs.length = 0 ∧ ¬ w.versions.length = 0 ∧ h.ones.length < 3
instance (h : Hb) (w : Wo) : Decidable (e9i h w) := by unfold e9i; infer_instance
def e9j (h : Hb) (w : Wo) : Prop := w.round = h.round ∧ 3 ≤ h.ones.length ∧ h.twos.length < 3
instance (h : Hb) (w : Wo) : Decidable (e9j h w) := by unfold e9j; infer_instance
end
section
structure Te where
 kind : Int
 node : Int
 proc : Int
 word : Int
 keep : Bool
 deriving DecidableEq, Inhabited

structure Sm where
 w : Tw
 list : List Te
 p : Nat
def f0b (x : Wo) : Prop := (0 ≤ x.to ∧ x.to ≤ 2) ∧ wob x
end
section
def paT (p : Pa) : Prop := ∀ q ∈ p.outs, q.time = p.ev.time
def f0c (n : Nd) : Prop := ∀ l ∈ n.lanes, ∀ p ∈ l.done, paT p
def ndI (n : Nd) : Prop := w3w n ∧ f0c n
def f0d (w : Tw) : Prop := e6x w.apps ∧ w.nodes.length = 3 ∧ (∀ n ∈ w.nodes, ndI n) ∧ w.radio.length ≤ 40 ∧ (∀ x ∈ w.radio, f0b x) ∧ e8p w.hub ∧ w.sink.length ≤ 1000000
def smOk (S : Sm) (c : Nat) : Prop := f0d S.w ∧ S.list.length ≤ c ∧ S.p ≤ c
theorem smOk.mono {S : Sm} {c d : Nat} (h : smOk S c) (hd : c ≤ d) : smOk S d := ⟨h.1, by have := h.2.1; omega, by have := h.2.2; omega⟩
end
section
def e7d (c : Bool) (h : Hb) : List AV := [pI h.round, b8e c h.ones, b8e c h.twos, b8e c h.outs]
def e7f (e : Te) : List AV := [pI e.kind, pI e.node, pI e.proc, pI e.word, .pv (.bool e.keep)]
def wZ (k f t i v r g : Int) : Wo := ⟨k, f, t, i, v, r, g, [], [], [], []⟩
def cZ (k f t i v r g : Int) : List AV := [pI k, pI f, pI t, pI i, pI v, pI r, pI g, .pv (.slice none 0 0), .pv (.slice none 0 0), .pv (.slice none 0 0), .pv (.slice none 0 0)]
theorem e8q (k f t i v r g : Int) : LeL true (cZ k f t i v r g) (a5z true (wZ k f t i v r g)) :=
 .cons (.cl rfl) (.cons (.cl rfl) (.cons (.cl rfl) (.cons (.cl rfl) (.cons (.cl rfl) (.cons (.cl rfl) (.cons (.cl rfl) (.cons .nil (.cons .nil (.cons .nil (.cons .nil .nil))))))))))
theorem b7h (h0 : y0y h i = some (g, .row 79 11 (l.map (a5z true)))) (t : FinL ((i, (g, .dead)) :: h) az bs h') : FinL h (.ref i g :: az) (b8e true l :: bs) h' := .ref h0 (Le.ow_map _ (fun _ => rfl) (fun _ => rfl)) t
theorem e8r (k f t i v r g : Int) : Le true (.row .ow 79 11 [cZ k f t i v r g]) (b8e true [wZ k f t i v r g]) := Le.ow_map2 (f := fun _ : Unit => cZ k f t i v r g) (f' := fun _ : Unit => a5z true (wZ k f t i v r g)) [()] (fun h => h) (fun _ => e8q k f t i v r g)
theorem e8s (h0 : y0y h j = some (q, .row 79 11 [cZ k f t i v r g])) (x : FinL ((j, (q, .dead)) :: h) az bs h') : FinL h (.ref j q :: az) (b8e true [wZ k f t i v r g] :: bs) h' := .ref h0 (e8r k f t i v r g) x
theorem d8g (t : FinL h az bs h') : FinL h (.agg (r4r true n) :: az) (.agg (r4r true n) :: bs) h' := .agg rfl (.cl rfl (.cl rfl (.cl rfl (.cl rfl (.cl rfl (.cl rfl (.cl rfl (.cl rfl (.cl rfl (.cl rfl (.cl rfl (.cl rfl (.cl rfl .nil))))))))))))) t

structure Rn where
 s : St
 sends : List Ev
 outs : List Ou
end
section
theorem e7q : (∀ ρ g c n, (a0t c n).map (inC ρ g) = a0t c n) ∧ (∀ ρ g c n, (q8q c n).map (inC ρ g) = q8q c n) ∧ (∀ ρ g c n, (a1f c n).map (inC ρ g) = a1f c n) ∧ (∀ ρ g c n, (r4r c n).map (inC ρ g) = r4r c n) ∧ (∀ ρ g c n, (a5z c n).map (inC ρ g) = a5z c n) ∧ (∀ ρ g c n, (e4w c n).map (inC ρ g) = e4w c n) ∧ (∀ ρ g c n, (e4x c n).map (inC ρ g) = e4x c n) ∧ (∀ ρ g c n, (e7c c n).map (inC ρ g) = e7c c n) ∧ (∀ ρ g c n, (e7d c n).map (inC ρ g) = e7d c n) ∧ (∀ ρ g n, (r5r n).map (inC ρ g) = r5r n) ∧ (∀ ρ g n, (y3y n).map (inC ρ g) = y3y n) ∧ (∀ ρ g n, (v8v n).map (inC ρ g) = v8v n) ∧ (∀ ρ g n, (p0p n).map (inC ρ g) = p0p n) ∧ (∀ ρ g n, (a0l n).map (inC ρ g) = a0l n) ∧ (∀ ρ g n, (a0u n).map (inC ρ g) = a0u n) ∧ (∀ ρ g n, (a7j n).map (inC ρ g) = a7j n) ∧ (∀ ρ g n, (e4v n).map (inC ρ g) = e4v n) ∧ (∀ ρ g n, (e7f n).map (inC ρ g) = e7f n) ∧ (∀ ρ g c l, inB ρ g (e6y c l) = e6y c l) ∧ (∀ ρ g c l, inC ρ g (e6y c l) = e6y c l) ∧ (∀ ρ g c l, inB ρ g (e6z c l) = e6z c l) ∧ (∀ ρ g c l, inC ρ g (e6z c l) = e6z c l) ∧ (∀ ρ g c l, inB ρ g (e7a c l) = e7a c l) ∧ (∀ ρ g c l, inC ρ g (e7a c l) = e7a c l) ∧ (∀ ρ g c l, inB ρ g (e7b c l) = e7b c l) ∧ (∀ ρ g c l, inC ρ g (e7b c l) = e7b c l) := ⟨fun _ _ _ _ => rfl, fun _ _ _ _ => rfl, fun _ _ _ _ => rfl, fun _ _ _ _ => rfl, fun _ _ _ _ => rfl, fun _ _ _ _ => rfl, fun _ _ _ _ => rfl, fun _ _ _ _ => rfl, fun _ _ _ _ => rfl, fun _ _ _ => rfl, fun _ _ _ => rfl, fun _ _ _ => rfl, fun _ _ _ => rfl, fun _ _ _ => rfl, fun _ _ _ => rfl, fun _ _ _ => rfl, fun _ _ _ => rfl, fun _ _ _ => rfl, fun _ _ _ _ => rfl, fun _ _ _ _ => rfl, fun _ _ _ _ => rfl, fun _ _ _ _ => rfl, fun _ _ _ _ => rfl, fun _ _ _ _ => rfl, fun _ _ _ _ => rfl, fun _ _ _ _ => rfl⟩
theorem a3c {α β : Type} {f : α → β} {l : List α} : (l.map f).length = l.length := List.length_map f
variable {α : Type}
theorem a1u {a b : List α} : (a ++ b).length = a.length + b.length := List.length_append
theorem a2b {a : α} {l : List α} : (a :: l).length = l.length + 1 := rfl
theorem a2g : ([] : List α).length = 0 := rfl
variable {n : Nat}
theorem a5e {l : List α} : (l.take n).length = min n l.length := List.length_take
theorem b8a : (List.range n).length = n := List.length_range
theorem c6r {l : List α} : (l.drop n).length = l.length - n := List.length_drop
theorem gE (l : List α) (i : Nat) (h : i < l.length := by omega) : ∃ x, l[i]? = some x := ⟨_, List.getElem?_eq_getElem h⟩
theorem d2l {a : α} {b c : List α} : a :: b ++ c = a :: (b ++ c) := rfl
theorem d2m {b : List α} : [] ++ b = b := rfl
variable {ops : Array Oper} {r : List Oper} {fr : Fr} {h : Hp} {lg : Log} {K : Fr → Hp → Log → Prop} {d t : Nat} {ty : TypeId} {pos : String} {af : Array Edge}
theorem rlB {parts : Array (Nat × Operand)} {S : TS} {flds : List (Nat × Nat)} {zs : List AV} {l : List (Nat × AV)} {cs : List AV} (hs : tt t = some S) (hz : S.zero.map .pv = zs)
  (k : u5u Tryz.prog tt ops r ((d, .agg cs) :: fr) h (([], []) :: lg) K) (hk : S.kind = .st flds := by rfl) (hp : a9v (evO fr) parts.toList = some l := by rfl) (hf : b6s tt flds zs l = some cs := by simp only [pI, w1w, T3, e9w, T4, b1g, T26, e8a, T28, q5q, T29, a1l, T41, a1m, T42, w2w, T47, y9y, T56, s1s, T58, a5v, T61, a9e, T62, a0i, T63, e5o, e7t, c7h, e7u, d0z, T160, b3h, e7v, e5p, e7w, e5r, e7x, a3f, e7y, a1g, e7z, b6s, s9s, AV.okc, AV.one, Value.oneCell', List.map_cons, List.map_nil, List.getElem?_cons_zero, List.getElem?_cons_succ, List.take_succ_cons, List.take_zero, List.drop_succ_cons, List.drop_zero, List.cons_append, List.nil_append, List.length_cons, List.length_nil, if_true, and_self, Nat.reduceAdd, Nat.reduceLeDiff]; rfl) :
  u5u Tryz.prog tt ops (⟨some d, .build t parts, ty, pos, af, none⟩ :: r) fr h lg K := d9e hs hk hz hp hf k
variable {Q : Exit → Fr → Hp → Prop} {B : Base} {X0 : Cx} {w0 : World} {i : Nat} {f : FuncId} {A0 : List AV} {I0 T : Hp}
theorem txM {x : Operand} {args : Array Operand} {at' : Array TypeId} {fi cap avs : List AV} {m : Nat} {ι : Type} {okι : ι → Prop} {kpF : ι → List Nat} {OF : ι → AV} {UF : ι → Hp}
  (L gs : List Nat) (hM : MethE Tryz.prog f m A0 I0 okι kpF OF UF) (ho : ops[i]? = some ⟨some d, .call { callee := .value x, args := args, argTypes := at' }, ty, pos, af, none⟩) (hf' : evO fr x = some (.fn (.func f) fi cap)) (ha : evL (evO fr) args.toList = some avs) (he : fi ++ avs ++ cap = A0.map (inT (gl L) (gl gs))) {out : ι → AV} {W : ι → Hp}
  (k : ∀ j, okι j → d8p Tryz.prog n ops Q B X0 w0 (i + 1) ((d, out j) :: fr) (W j ++ h)) (hdn : Nat.blt d n = true := by rfl) (hn : L.Nodup := by decide) (hL : L.length = m := by rfl) (hT : I0.map (a3l (gl L) (gl gs)) = T := by rfl) (hi : InH h T := by repeat (first | exact InH.nil | refine InH.cons rfl ?_))
  (hout : ∀ j, inT (gl L) (nx (kpF j) (gl gs)) (OF j) = out j := by exact fun _ => (by first | (simp only [pI, a8b, a8e, e7q, d1r, gl, nx, c1s, Nat.beq]; rfl) | rfl)) (hW : ∀ j, (UF j).map (a3l (gl L) (nx (kpF j) (gl gs))) = W j := by exact fun _ => (by first | (simp only [pI, a8b, a8e, e7q, d1r, gl, nx, c1s, Nat.beq]; rfl) | rfl)) :
  d8p Tryz.prog n ops Q B X0 w0 i fr h := e0l L gs hM ho hdn hf' ha he hn hL hT hi hout hW k
theorem txR (m : Nat) {l : List Oper} (hl : (ops.toList.drop i).take m = l) (hm : l.length = m) (hr : u5u Tryz.prog tt ops l fr h [] fun fr' h' _ => d8p Tryz.prog n ops Q B X0 w0 (i + m) fr' h')
  (hd : (ops.toList.all fun o => match o.dst with | some d => decide (d < n) | none => true) = true := by rfl) : d8p Tryz.prog n ops Q B X0 w0 i fr h := e4u z9z hd m hl hm hr
variable {id : Nat}
theorem exD {c : Code} (hr : u5u Tryz.prog tt ops ops.toList fr h [] fun fr' h' lg => chk ops lg.reverse = true ∧ Ex Tryz.prog n c fr' h' Q)
  (hd : (ops.toList.all fun o => match o.dst with | some d => decide (d < n) | none => true) = true := by rfl) : Ex Tryz.prog n (.seq (.region id ops true) c) fr h Q := e6i z9z e3b hd hr
theorem exG (hr : u5u Tryz.prog tt ops ops.toList fr h [] fun fr' h' _ => Q .normal fr' h')
  (hd : (ops.toList.all fun o => match o.dst with | some d => decide (d < n) | none => true) = true := by rfl) : Ex Tryz.prog n (.region id ops false) fr h Q := c7f z9z hd hr
theorem exH (hr : u5u Tryz.prog tt ops ops.toList fr h [] fun fr' h' lg => chk ops lg.reverse = true ∧ Q .normal fr' h')
  (hd : (ops.toList.all fun o => match o.dst with | some d => decide (d < n) | none => true) = true := by rfl) : Ex Tryz.prog n (.region id ops true) fr h Q := b5f z9z e3b hd hr
variable {c : Operand} {x y : Code}
theorem c5t {t : Bool} (hc : evO fr c = some (.pv (.bool t))) (h2 : t = false → Ex Tryz.prog n y fr h Q) (h1 : t = true → Ex Tryz.prog n x fr h Q) : Ex Tryz.prog n (.cond c x y) fr h Q := y6y hc h1 h2
variable {op : Op} {j : Nat}
theorem e7g {w b : Bool} (hj : p8p ops j = some t) (hg : fr.get t = some (.pv (.bool b))) (k2 : b = (!w) → u5u Tryz.prog tt ops r ((d, .pv undef) :: (t, .pv (.bool (!w))) :: fr) h (([], []) :: lg) K) (k1 : b = w → u5u Tryz.prog tt ops (⟨some d, op, ty, pos, af, none⟩ :: r) ((t, .pv (.bool w)) :: fr) h lg K) :
  u5u Tryz.prog tt ops (⟨some d, op, ty, pos, af, some (j, w)⟩ :: r) fr h lg K := e3d hj hg k1 k2
theorem y2y {bs fr' : Fr} (h : Cov bs fr' := by repeat (first | exact Cov.nil | refine Cov.cons rfl ?_)) : Cov bs fr' := h
theorem y1y {bh h' : Hp} (h : HE h' bh := by repeat (first | exact HE.nil | refine HE.kill rfl ?_ | refine HE.same rfl ?_ | refine HE.row rfl rfl ?_ | refine HE.box rfl rfl ?_)) : HE h' bh := h
theorem e8t (k : InH h T := by repeat (first | exact InH.nil | refine InH.cons rfl ?_)) : InH h T := k
def e8u (fr : Fr) : List Nat → Option Fr
 | [] => some []
 | t :: ts => match fr.get t, e8u fr ts with
  | some v, some r => some ((t, v) :: r)
  | _, _ => none
theorem a0f {fr : Fr} : ∀ (ts : List Nat) {bs : Fr}, e8u fr ts = some bs → Cov bs fr
 | [], bs, h => by cases h; exact Cov.nil
 | t :: ts, bs, h => by
  simp only [e8u] at h
  split at h
  ·rename_i v r h1 h2
   cases h
   exact Cov.cons h1 (a0f ts h2)
  ·cases h
def heB (h : Hp) : List Nat → Option Hp
 | [] => some []
 | i :: ts => match y0y h i, heB h ts with
  | some v, some r => some ((i, v) :: r)
  | _, _ => none
theorem a2k {h : Hp} : ∀ (ts : List Nat) {bh : Hp}, heB h ts = some bh → HE h bh
 | [], bs, e => by cases e; exact HE.nil
 | t :: ts, bs, e => by
  simp only [heB] at e
  split at e
  ·rename_i v r h1 h2
   cases e
   exact HE.same h1 (a2k ts h2)
  ·cases e
variable {avs : List AV}
theorem pX {c : Code} (fn : Func) (outs : List AV) (k : Nat) (hx : Ex Tryz.prog fn.ntmps c (b9o avs) (d2y k) fun e fr h => (e = .normal ∨ e = .ret) ∧ ∃ l h', c3z tt fr h fn.results.toList = some l ∧ FinL h l outs h')
  (hfn : Tryz.prog.funcs[f]? = some fn := by kernel_rfl) (hname : (fn.name == "runtime.NumGoroutine") = false := by kernel_rfl) (hb : fn.body = some c := by rfl) (hcl : (avs.all AV.clA) = true := by rfl) (hn : avs.length ≤ fn.ntmps := by exact Nat.le_of_ble_eq_true rfl) : r0r Tryz.prog f avs (one1 outs) := d2z z9z hfn hname hb hcl hn k hx
theorem mX {c : Code} {kp : List Nat} {I0 U0 : Hp} {F : Gn → Fr} {H : Gn → Hp} (fn : Func) (O0 : List AV) (m k : Nat)
  (hx : ∀ γ : Gn, Ex Tryz.prog fn.ntmps c (F γ) (H γ) fun e fr h => (e = .normal ∨ e = .ret) ∧ ∃ g' : List Nat, kp.map (gl g') = kp.map γ ∧ c3z tt fr h fn.results.toList = some (O0.map (inA idf (gl g'))) ∧ HE h (U0.map (a3l idf (gl g')) ++ (a8k U0 I0).map (a3l idf γ)))
  (hFr : ∀ γ, b9o (A0.map (inT idf γ)) = F γ := by exact fun γ => (by first | (simp only [pI, a8b, a8e, e7q, d1r, idf, b9o, List.zipIdx_cons, List.zipIdx_nil, Nat.zero_add, Nat.reduceAdd]; rfl) | rfl)) (hHp : ∀ γ, I0.map (a3l idf γ) ++ a4k m k = H γ := by exact fun γ => (by first | (simp only [pI, a8b, a8e, e7q, d1r, idf]; rfl) | rfl))
  (hfn : Tryz.prog.funcs[f]? = some fn := by kernel_rfl) (hname : (fn.name == "runtime.NumGoroutine") = false := by kernel_rfl) (hb : fn.body = some c := by rfl) (hn : A0.length ≤ fn.ntmps := by exact Nat.le_of_ble_eq_true rfl)
  (hok : d5e m kp A0 I0 (one1 O0) U0 = true := by rfl) (ib : BndH m I0 := by repeat (first | exact BndH.nil | refine BndH.dead ?_ | refine BndH.box rfl ?_ | refine BndH.box (by assumption) ?_ | refine BndH.row (y5y fun _ => rfl) ?_ | refine BndH.row c7m ?_ | refine BndH.map (by intro p hp; cases hp; done) ?_ | refine BndH.map (by intro p hp; simp only [List.mem_map, List.not_mem_nil] at hp; first | (obtain ⟨a, _, rfl⟩ := hp; rfl) | exact hp.elim) ?_ | refine BndH.chn ?_)) (ub : BndH m U0 := by repeat (first | exact BndH.nil | refine BndH.dead ?_ | refine BndH.box rfl ?_ | refine BndH.box (by assumption) ?_ | refine BndH.row (y5y fun _ => rfl) ?_ | refine BndH.row c7m ?_ | refine BndH.map (by intro p hp; cases hp; done) ?_ | refine BndH.map (by intro p hp; simp only [List.mem_map, List.not_mem_nil] at hp; first | (obtain ⟨a, _, rfl⟩ := hp; rfl) | exact hp.elim) ?_ | refine BndH.chn ?_)) (hbo : (O0.all (e1q m)) = true := by rfl) :
  Meth Tryz.prog f m kp A0 I0 (one1 O0) U0 := u9u z9z hfn hname hb m k hn hok ib ub hbo (fun γ => by rw [hFr γ, hHp γ]; exact hx γ)
structure Wr (B : Prop) : Prop where b : B
def Fu (_ : Nat) : Prop := True
theorem thN {K : Fr → Hp → Prop} (k : K fr h) : c1x K Q .normal fr h := k
theorem thE {K : Fr → Hp → Prop} (k : Q (.exit i) fr h) : c1x K Q (.exit i) fr h := k
theorem thR {K : Fr → Hp → Prop} (k : Q .ret fr h) : c1x K Q .ret fr h := k
theorem blE (k : Q .normal fr h) : e0z i Q (.exit i) fr h := by simp only [e0z, if_true]; exact k
theorem blO (e : Nat.beq j i = false) (k : Q (.exit j) fr h) : e0z i Q (.exit j) fr h := by
 have e : ¬ j = i := fun q => by subst q; simp at e
 simp only [e0z, if_neg e]; exact k
theorem blN (k : Q .normal fr h) : e0z i Q .normal fr h := k
theorem blR (k : Q .ret fr h) : e0z i Q .ret fr h := k
theorem hkL {D K : Fr → Hp → Prop} (q : ∀ fr h, D fr h → K fr h) (k : D fr h) : K fr h := q _ _ k
theorem e9k {Q : Prop} (e : chk ops lg = true) (k : Q) : chk ops lg = true ∧ Q := ⟨e, k⟩
variable {R : Prop}
theorem e9l (k : R) : (Exit.ret = .normal ∨ Exit.ret = .ret) ∧ R := ⟨.inr rfl, k⟩
theorem e9m (k : R) : (Exit.normal = .normal ∨ Exit.normal = .ret) ∧ R := ⟨.inl rfl, k⟩
theorem e9n (hc : evO fr c = some (.pv (.bool true))) (k : Ex Tryz.prog n x fr h Q) : Ex Tryz.prog n (.cond c x y) fr h Q := y6y hc (fun _ => k) (fun e => nomatch e)
theorem e9o (hc : evO fr c = some (.pv (.bool false))) (k : Ex Tryz.prog n y fr h Q) : Ex Tryz.prog n (.cond c x y) fr h Q := y6y hc (fun e => nomatch e) (fun _ => k)
theorem f0e {t : Bool} (hc : evO fr c = some (.pv (.bool t))) (k : (t = true → Ex Tryz.prog n x fr h Q) ∧ (t = false → Ex Tryz.prog n y fr h Q)) : Ex Tryz.prog n (.cond c x y) fr h Q := y6y hc k.1 k.2
theorem f0g {w b : Bool} (hj : p8p ops j = some t) (hg : fr.get t = some (.pv (.bool b))) (k : (b = w → u5u Tryz.prog tt ops (⟨some d, op, ty, pos, af, none⟩ :: r) ((t, .pv (.bool w)) :: fr) h lg K) ∧ (b = (!w) → u5u Tryz.prog tt ops r ((d, .pv undef) :: (t, .pv (.bool (!w))) :: fr) h (([], []) :: lg) K)) :
  u5u Tryz.prog tt ops (⟨some d, op, ty, pos, af, some (j, w)⟩ :: r) fr h lg K := e3d hj hg k.1 k.2
theorem f0h {c x y : Operand} {b : Bool} {a a' : AV} (hc : evO fr c = some (.pv (.bool b))) (hx : evO fr x = some a) (hy : evO fr y = some a') (k : (b = true → u5u Tryz.prog tt ops r ((d, a) :: fr) h (([], []) :: lg) K) ∧ (b = false → u5u Tryz.prog tt ops r ((d, a') :: fr) h (([], []) :: lg) K)) :
  u5u Tryz.prog tt ops (⟨some d, .pick c x y, ty, pos, af, none⟩ :: r) fr h lg K := e3c hc hx hy k.1 k.2
variable {a b : Prop}
theorem aI (x : a) (y : b) : a ∧ b := ⟨x, y⟩
theorem aS (y : b) (x : a) : a ∧ b := ⟨x, y⟩
theorem fuA (h : Fu (n + 1)) : Fu n := h
theorem fuB (h : Fu (n + 4)) : Fu n := h
theorem dv (n : Nat) (k : b) (f : Fu n → Wr b → a := by intro u9 k9; (repeat (first | (show u5u _ _ _ _ _ _ _ _; first | (replace u9 := fuB u9; refine s3s 4 rfl rfl ?_) | (replace u9 := fuA u9; refine s3s 1 rfl rfl ?_) | refine d4w ?_ | refine b9s rfl rfl ?_ | (replace u9 := fuA u9; first | refine b9r rfl rfl rfl rfl rfl rfl rfl ?_ | refine c7j rfl rfl rfl rfl rfl rfl rfl rfl (by simp only [Nat.reduceAdd, b0t]; rfl) ?_ | refine a9h rfl rfl rfl (by assumption) rfl rfl ?_ | refine c4i rfl rfl rfl (by assumption) rfl ?_ | refine b4c rfl rfl rfl rfl rfl rfl (by assumption) ?_ | refine c4d rfl rfl rfl ?_ | refine a9x rfl rfl rfl rfl (by first | exact List.length_map _ | rfl) ?_)) | (show Ex _ _ _ _ _ _; replace u9 := fuA u9; first | refine exR ?_ | refine exD ?_ | refine exG ?_ | refine exH ?_ | (refine q4q ?_; intro K9 K8) | refine a6v ?_ | refine a8j ?_ | refine a2w ?_ | refine a9d ?_ | refine e9n rfl ?_ | refine e9o rfl ?_) | ((fail_if_success show u5u _ _ _ _ _ _ _ _); (fail_if_success show Ex _ _ _ _ _ _); first | refine thN ?_ | (refine hkL (by assumption) ?_; (repeat clear K8 K9)) | refine blE ?_ | refine thE ?_ | refine blO rfl ?_ | refine blN ?_ | refine e9k (by kernel_rfl) ?_ | refine thR ?_ | refine blR ?_ | refine e9l ?_ | refine e9m ?_))); (repeat revert K9); exact k9.1) : a := f trivial ⟨k⟩
theorem dc (n : Nat) (k : b) (f : Fu n → Wr b → a := by intro u9 k9; (repeat (first | (show u5u _ _ _ _ _ _ _ _; first | (replace u9 := fuB u9; refine s3s 4 rfl rfl ?_) | (replace u9 := fuA u9; refine s3s 1 rfl rfl ?_) | refine d4w ?_ | refine b9s rfl rfl ?_ | (replace u9 := fuA u9; first | refine b9r rfl rfl rfl rfl rfl rfl rfl ?_ | refine c7j rfl rfl rfl rfl rfl rfl rfl rfl (by simp only [Nat.reduceAdd, b0t]; rfl) ?_ | refine a9h rfl rfl rfl (by assumption) rfl rfl ?_ | refine c4i rfl rfl rfl (by assumption) rfl ?_ | refine b4c rfl rfl rfl rfl rfl rfl (by assumption) ?_ | refine c4d rfl rfl rfl ?_ | refine a9x rfl rfl rfl rfl (by first | exact List.length_map _ | rfl) ?_)) | (show Ex _ _ _ _ _ _; replace u9 := fuA u9; first | refine exR ?_ | refine exD ?_ | refine exG ?_ | refine exH ?_ | (refine q4q ?_; intro K9 K8) | refine a6v ?_ | refine a8j ?_ | refine a2w ?_ | refine a9d ?_ | refine e9n rfl ?_ | refine e9o rfl ?_) | ((fail_if_success show u5u _ _ _ _ _ _ _ _); (fail_if_success show Ex _ _ _ _ _ _); first | refine thN ?_ | (refine hkL (by assumption) ?_; (repeat clear K8 K9)) | refine blE ?_ | refine thE ?_ | refine blO rfl ?_ | refine blN ?_ | refine e9k (by kernel_rfl) ?_ | refine thR ?_ | refine blR ?_ | refine e9l ?_ | refine e9m ?_))); (first | refine f0e rfl ?_ | refine f0g rfl rfl ?_ | refine f0h rfl rfl rfl ?_); (repeat revert K9); exact k9.1) : a := f trivial ⟨k⟩
end
section
theorem b0k (c : Bool) (l : List Int) (left : Nat) (hl : left ≤ 1048576) : r0r Tryz.prog 181 [a5d c l, .pv (.int .i64 (left : Int))] (.pv (.int .i64 (lf left l.length))) := by
 refine pX Tryz.f181 [.pv (.int .i64 (lf left l.length))] 0 ?_
 refine y8y 0 rfl fun hlen => ?_
 refine dv 6 ?_
 refine a0m (.int .i64 ((left : Int) - (l.length : Int))) rfl rfl rfl (a7p rfl rfl (by omega) (by omega)) ?_
 refine dc 5 (fun K K' => aI ?_ ?_)<;>intro h<;>try simp at h
 ·refine dv 3 ?_
  refine x1x rfl ?_ rfl
  exact congrArg (fun v : Int => [AV.pv (.int .i64 v)]) (a2o (by omega)).symm
 refine dv 5 ?_
 refine x1x rfl ?_ rfl
 exact congrArg (fun v : Int => [AV.pv (.int .i64 v)]) ((a0s (by omega)).trans (by omega)).symm
theorem a4v (c : Bool) (l : List Ev) (left : Nat) (hl : left ≤ 1048576) : r0r Tryz.prog 178 [w7w c l, .pv (.int .i64 (left : Int))] (.pv (.int .i64 (lf left l.length))) := by
 refine pX Tryz.f178 [.pv (.int .i64 (lf left l.length))] 0 ?_
 refine y8y 0 rfl fun hlen => ?_
 refine dv 6 ?_
 refine a0m (.int .i64 ((left : Int) - (l.length : Int))) rfl rfl rfl (a7p rfl rfl (by omega) (by omega)) ?_
 refine dc 5 (fun K K' => aI ?_ ?_)<;>intro h<;>try simp at h
 ·refine dv 3 ?_
  refine x1x rfl ?_ rfl
  exact congrArg (fun v : Int => [AV.pv (.int .i64 v)]) (a2o (by omega)).symm
 refine dv 5 ?_
 refine x1x rfl ?_ rfl
 exact congrArg (fun v : Int => [AV.pv (.int .i64 v)]) ((a0s (by omega)).trans (by omega)).symm
theorem b0l (c : Bool) (l : List Ou) (left : Nat) (hl : left ≤ 1048576) : r0r Tryz.prog 179 [r9r c l, .pv (.int .i64 (left : Int))] (.pv (.int .i64 (lf left l.length))) := by
 refine pX Tryz.f179 [.pv (.int .i64 (lf left l.length))] 0 ?_
 refine y8y 0 rfl fun hlen => ?_
 refine dv 6 ?_
 refine a0m (.int .i64 ((left : Int) - (l.length : Int))) rfl rfl rfl (a7p rfl rfl (by omega) (by omega)) ?_
 refine dc 5 (fun K K' => aI ?_ ?_)<;>intro h<;>try simp at h
 ·refine dv 3 ?_
  refine x1x rfl ?_ rfl
  exact congrArg (fun v : Int => [AV.pv (.int .i64 v)]) (a2o (by omega)).symm
 refine dv 5 ?_
 refine x1x rfl ?_ rfl
 exact congrArg (fun v : Int => [AV.pv (.int .i64 v)]) ((a0s (by omega)).trans (by omega)).symm
theorem c5u (c : Bool) (p : Pa) (left : Nat) (hl : left ≤ 1048576) : r0r Tryz.prog 315 [.agg (a0t c p), .pv (.int .i64 (left : Int))] (.pv (.int .i64 (lf left (cPa p)))) := by
 refine pX Tryz.f315 [.pv (.int .i64 (lf left (cPa p)))] 1 ?_
 have hc : cPa p = p.sends.length + p.outs.length := rfl
 refine dv 1 ?_
 refine x9x (id := 0) rfl rfl rfl (dv 5 ?_)
 refine x0x rfl rfl rfl (a4v c p.sends left hl) (dc 5 (fun K K' => aI ?_ ?_))<;>intro hc2<;>try simp at hc2
 ·have hT := b3c hc2
  refine dv 3 ?_
  refine x1x rfl ?_ rfl
  exact congrArg (fun v : Int => [AV.pv (.int .i64 v)]) (a2o (by omega)).symm
 have h10 : p.sends.length ≤ left := b1h (by omega)
 rw [a0s h10]
 refine dv 5 ?_
 refine x0x rfl rfl rfl (b0l c p.outs (left - p.sends.length) (by omega)) ?_
 refine dc 5 (fun K K' => aI ?_ ?_)<;>intro hc4<;>try simp at hc4
 ·have hT := b3c hc4
  refine dv 3 ?_
  refine x1x rfl ?_ rfl
  exact congrArg (fun v : Int => [AV.pv (.int .i64 v)]) (a2o (by omega)).symm
 have h16 : p.outs.length ≤ (left - p.sends.length) := b1h (by omega)
 rw [a0s h16]
 refine dv 5 ?_
 refine x1x rfl ?_ rfl
 exact congrArg (fun v : Int => [AV.pv (.int .i64 v)]) ((a0s (by omega)).trans (by omega)).symm
theorem c2d (c : Bool) (l : List Pa) (left : Nat) (hl : left ≤ 1048576) : r0r Tryz.prog 295 [a3b c l, .pv (.int .i64 (left : Int))] (.pv (.int .i64 (lf left (c4w l)))) := by
 refine pX Tryz.f295 [.pv (.int .i64 (lf left (c4w l)))] 0 ?_
 refine y8y 0 rfl fun hlen => ?_
 have hc : c4w l = l.length + szs cPa l := rfl
 refine dv 6 ?_
 refine a0m (.int .i64 ((left : Int) - (l.length : Int))) rfl rfl rfl (a7p rfl rfl (by omega) (by omega)) ?_
 refine v3v rfl (q4q fun K K' => ?_)
 refine exR (q1q rfl (c3g rfl rfl rfl (y6y rfl ?_ ?_)))<;>intro h<;>try simp at h
 ·refine exR (v3v rfl (a9d ⟨.inr rfl, ?_⟩))
  refine x1x rfl ?_ rfl
  exact congrArg (fun v : Int => [AV.pv (.int .i64 v)]) (a2o (by omega)).symm
 refine a6v (hkL (by assumption) ?_)
 refine q4q fun K K' => ?_
 refine exR (v3v rfl (a2w ?_))
 refine x4x (ι := Nat) (fun i γ1 => [(1, .pv (.int .i64 ((left - (l.length + szs cPa (l.take i)) : Nat) : Int))), (5, .pv (.int .i64 (i : Int)))]) (fun i γ1 => []) (fun i => i ≤ l.length ∧ l.length + szs cPa (l.take i) ≤ left) (fun i => l.length - i) (x5x 0 rfl Cov.nil) HE.nil 0 ⟨by omega, by rw [List.take_zero]; show l.length + 0 ≤ left; omega⟩ [] (Cov.cons' (t := 1) rfl (by rw [List.take_zero]; exact congrArg (fun v : Int => AV.pv (.int .i64 v)) (by show _ = ((left - (l.length + 0) : Nat) : Int); omega)) (x5x 5 rfl Cov.nil)) HE.nil rfl fun i γ1 hi => ?_
 obtain ⟨h1, h2⟩ := hi
 refine dc 6 (fun K K' => aS ?_ ?_)<;>intro h<;>try simp at h
 ·obtain rfl : i = l.length := by omega
  rw [List.take_length] at h2 ⊢
  refine dv 5 ?_
  refine x1x rfl ?_ rfl
  exact congrArg (fun v : Int => [AV.pv (.int .i64 v)]) ((a0s (by omega)).trans (by omega)).symm
 obtain ⟨p, hp⟩ := gE l i
 have hat := a2n cPa hp
 refine dv 9 fun K K' => ?_
 refine x0x rfl rfl rfl (c5u c p (left - (l.length + szs cPa (l.take i))) (by omega)) ?_
 refine dc 4 (aI ?_ ?_)<;>intro hc7<;>try simp at hc7
 ·have hT := b3c hc7
  refine dv 3 ?_
  refine x1x rfl ?_ rfl
  exact congrArg (fun v : Int => [AV.pv (.int .i64 v)]) (a2o (by omega)).symm
 have h25 : cPa p ≤ left - (l.length + szs cPa (l.take i)) := b1h (by omega)
 rw [a0s h25]
 refine dv 3 ?_
 refine u2u rfl rfl rfl (dv 1 ?_)
 exact ⟨i + 1, ⟨⟨by omega, by rw [r6r cPa hp]; omega⟩, by omega⟩, [], (Cov.cons' (t := 1) rfl (by rw [r6r cPa hp]; exact congrArg (fun v : Nat => AV.pv (.int .i64 (v : Int))) (by omega)) (Cov.cons' (t := 5) rfl (by rw [x6x (by omega) (by omega)]; rfl) Cov.nil)), y2y, y1y, y1y, rfl⟩
theorem c5v (c : Bool) (p : La) (left : Nat) (hl : left ≤ 1048576) : r0r Tryz.prog 257 [.agg (q8q c p), .pv (.int .i64 (left : Int))] (.pv (.int .i64 (lf left (cLa p)))) := by
 refine pX Tryz.f257 [.pv (.int .i64 (lf left (cLa p)))] 1 ?_
 have hc : cLa p = c4w p.done := rfl
 refine dv 1 ?_
 refine x9x (id := 0) rfl rfl rfl (dv 5 ?_)
 refine x0x rfl rfl rfl (c2d c p.done left hl) (dc 5 (fun K K' => aI ?_ ?_))<;>intro hc2<;>try simp at hc2
 ·have hT := b3c hc2
  refine dv 3 ?_
  refine x1x rfl ?_ rfl
  exact congrArg (fun v : Int => [AV.pv (.int .i64 v)]) (a2o (by omega)).symm
 have h10 : c4w p.done ≤ left := b1h (by omega)
 rw [a0s h10]
 refine dv 5 ?_
 refine x1x rfl ?_ rfl
 exact congrArg (fun v : Int => [AV.pv (.int .i64 v)]) ((a0s (by omega)).trans (by omega)).symm
theorem c2e (c : Bool) (l : List La) (left : Nat) (hl : left ≤ 1048576) : r0r Tryz.prog 177 [c6p c l, .pv (.int .i64 (left : Int))] (.pv (.int .i64 (lf left (b7y l)))) := by
 refine pX Tryz.f177 [.pv (.int .i64 (lf left (b7y l)))] 0 ?_
 refine y8y 0 rfl fun hlen => ?_
 have hc : b7y l = l.length + szs cLa l := rfl
 refine dv 6 ?_
 refine a0m (.int .i64 ((left : Int) - (l.length : Int))) rfl rfl rfl (a7p rfl rfl (by omega) (by omega)) ?_
 refine v3v rfl (q4q fun K K' => ?_)
 refine exR (q1q rfl (c3g rfl rfl rfl (y6y rfl ?_ ?_)))<;>intro h<;>try simp at h
 ·refine exR (v3v rfl (a9d ⟨.inr rfl, ?_⟩))
  refine x1x rfl ?_ rfl
  exact congrArg (fun v : Int => [AV.pv (.int .i64 v)]) (a2o (by omega)).symm
 refine a6v (hkL (by assumption) ?_)
 refine q4q fun K K' => ?_
 refine exR (v3v rfl (a2w ?_))
 refine x4x (ι := Nat) (fun i γ1 => [(1, .pv (.int .i64 ((left - (l.length + szs cLa (l.take i)) : Nat) : Int))), (5, .pv (.int .i64 (i : Int)))]) (fun i γ1 => []) (fun i => i ≤ l.length ∧ l.length + szs cLa (l.take i) ≤ left) (fun i => l.length - i) (x5x 0 rfl Cov.nil) HE.nil 0 ⟨by omega, by rw [List.take_zero]; show l.length + 0 ≤ left; omega⟩ [] (Cov.cons' (t := 1) rfl (by rw [List.take_zero]; exact congrArg (fun v : Int => AV.pv (.int .i64 v)) (by show _ = ((left - (l.length + 0) : Nat) : Int); omega)) (x5x 5 rfl Cov.nil)) HE.nil rfl fun i γ1 hi => ?_
 obtain ⟨h1, h2⟩ := hi
 refine dc 6 (fun K K' => aS ?_ ?_)<;>intro h<;>try simp at h
 ·obtain rfl : i = l.length := by omega
  rw [List.take_length] at h2 ⊢
  refine dv 5 ?_
  refine x1x rfl ?_ rfl
  exact congrArg (fun v : Int => [AV.pv (.int .i64 v)]) ((a0s (by omega)).trans (by omega)).symm
 obtain ⟨p, hp⟩ := gE l i
 have hat := a2n cLa hp
 refine dv 9 fun K K' => ?_
 refine x0x rfl rfl rfl (c5v c p (left - (l.length + szs cLa (l.take i))) (by omega)) ?_
 refine dc 4 (aI ?_ ?_)<;>intro hc7<;>try simp at hc7
 ·have hT := b3c hc7
  refine dv 3 ?_
  refine x1x rfl ?_ rfl
  exact congrArg (fun v : Int => [AV.pv (.int .i64 v)]) (a2o (by omega)).symm
 have h25 : cLa p ≤ left - (l.length + szs cLa (l.take i)) := b1h (by omega)
 rw [a0s h25]
 refine dv 3 ?_
 refine u2u rfl rfl rfl (dv 1 ?_)
 exact ⟨i + 1, ⟨⟨by omega, by rw [r6r cLa hp]; omega⟩, by omega⟩, [], (Cov.cons' (t := 1) rfl (by rw [r6r cLa hp]; exact congrArg (fun v : Nat => AV.pv (.int .i64 (v : Int))) (by omega)) (Cov.cons' (t := 5) rfl (by rw [x6x (by omega) (by omega)]; rfl) Cov.nil)), y2y, y1y, y1y, rfl⟩
theorem c5w (c : Bool) (p : Vi) (left : Nat) (hl : left ≤ 1048576) : r0r Tryz.prog 258 [.agg (a1f c p), .pv (.int .i64 (left : Int))] (.pv (.int .i64 (lf left (cVi p)))) := by
 refine pX Tryz.f258 [.pv (.int .i64 (lf left (cVi p)))] 1 ?_
 have hc : cVi p = p.events.length := rfl
 refine dv 1 ?_
 refine x9x (id := 0) rfl rfl rfl (dv 5 ?_)
 refine x0x rfl rfl rfl (a4v c p.events left hl) (dc 5 (fun K K' => aI ?_ ?_))<;>intro hc2<;>try simp at hc2
 ·have hT := b3c hc2
  refine dv 3 ?_
  refine x1x rfl ?_ rfl
  exact congrArg (fun v : Int => [AV.pv (.int .i64 v)]) (a2o (by omega)).symm
 have h10 : p.events.length ≤ left := b1h (by omega)
 rw [a0s h10]
 refine dv 5 ?_
 refine x1x rfl ?_ rfl
 exact congrArg (fun v : Int => [AV.pv (.int .i64 v)]) ((a0s (by omega)).trans (by omega)).symm
theorem c2f (c : Bool) (l : List Vi) (left : Nat) (hl : left ≤ 1048576) : r0r Tryz.prog 180 [c6q c l, .pv (.int .i64 (left : Int))] (.pv (.int .i64 (lf left (c3j l)))) := by
 refine pX Tryz.f180 [.pv (.int .i64 (lf left (c3j l)))] 0 ?_
 refine y8y 0 rfl fun hlen => ?_
 have hc : c3j l = l.length + szs cVi l := rfl
 refine dv 6 ?_
 refine a0m (.int .i64 ((left : Int) - (l.length : Int))) rfl rfl rfl (a7p rfl rfl (by omega) (by omega)) ?_
 refine v3v rfl (q4q fun K K' => ?_)
 refine exR (q1q rfl (c3g rfl rfl rfl (y6y rfl ?_ ?_)))<;>intro h<;>try simp at h
 ·refine exR (v3v rfl (a9d ⟨.inr rfl, ?_⟩))
  refine x1x rfl ?_ rfl
  exact congrArg (fun v : Int => [AV.pv (.int .i64 v)]) (a2o (by omega)).symm
 refine a6v (hkL (by assumption) ?_)
 refine q4q fun K K' => ?_
 refine exR (v3v rfl (a2w ?_))
 refine x4x (ι := Nat) (fun i γ1 => [(1, .pv (.int .i64 ((left - (l.length + szs cVi (l.take i)) : Nat) : Int))), (5, .pv (.int .i64 (i : Int)))]) (fun i γ1 => []) (fun i => i ≤ l.length ∧ l.length + szs cVi (l.take i) ≤ left) (fun i => l.length - i) (x5x 0 rfl Cov.nil) HE.nil 0 ⟨by omega, by rw [List.take_zero]; show l.length + 0 ≤ left; omega⟩ [] (Cov.cons' (t := 1) rfl (by rw [List.take_zero]; exact congrArg (fun v : Int => AV.pv (.int .i64 v)) (by show _ = ((left - (l.length + 0) : Nat) : Int); omega)) (x5x 5 rfl Cov.nil)) HE.nil rfl fun i γ1 hi => ?_
 obtain ⟨h1, h2⟩ := hi
 refine dc 6 (fun K K' => aS ?_ ?_)<;>intro h<;>try simp at h
 ·obtain rfl : i = l.length := by omega
  rw [List.take_length] at h2 ⊢
  refine dv 5 ?_
  refine x1x rfl ?_ rfl
  exact congrArg (fun v : Int => [AV.pv (.int .i64 v)]) ((a0s (by omega)).trans (by omega)).symm
 obtain ⟨p, hp⟩ := gE l i
 have hat := a2n cVi hp
 refine dv 9 fun K K' => ?_
 refine x0x rfl rfl rfl (c5w c p (left - (l.length + szs cVi (l.take i))) (by omega)) ?_
 refine dc 4 (aI ?_ ?_)<;>intro hc7<;>try simp at hc7
 ·have hT := b3c hc7
  refine dv 3 ?_
  refine x1x rfl ?_ rfl
  exact congrArg (fun v : Int => [AV.pv (.int .i64 v)]) (a2o (by omega)).symm
 have h25 : cVi p ≤ left - (l.length + szs cVi (l.take i)) := b1h (by omega)
 rw [a0s h25]
 refine dv 3 ?_
 refine u2u rfl rfl rfl (dv 1 ?_)
 exact ⟨i + 1, ⟨⟨by omega, by rw [r6r cVi hp]; omega⟩, by omega⟩, [], (Cov.cons' (t := 1) rfl (by rw [r6r cVi hp]; exact congrArg (fun v : Nat => AV.pv (.int .i64 (v : Int))) (by omega)) (Cov.cons' (t := 5) rfl (by rw [x6x (by omega) (by omega)]; rfl) Cov.nil)), y2y, y1y, y1y, rfl⟩
theorem c5x (c : Bool) (p : Nd) (left : Nat) (hl : left ≤ 1048576) : r0r Tryz.prog 72 [.agg (r4r c p), .pv (.int .i64 (left : Int))] (.pv (.int .i64 (lf left (cNd p)))) := by
 refine pX Tryz.f72 [.pv (.int .i64 (lf left (cNd p)))] 1 ?_
 have hc : cNd p = b7y p.lanes + p.kept.length + p.outs.length + c3j p.views + p.known.length := rfl
 refine dv 1 ?_
 refine x9x (id := 0) rfl rfl rfl (dv 5 ?_)
 refine x0x rfl rfl rfl (c2e c p.lanes left hl) (dc 5 (fun K K' => aI ?_ ?_))<;>intro hc2<;>try simp at hc2
 ·have hT := b3c hc2
  refine dv 3 ?_
  refine x1x rfl ?_ rfl
  exact congrArg (fun v : Int => [AV.pv (.int .i64 v)]) (a2o (by omega)).symm
 have h10 : b7y p.lanes ≤ left := b1h (by omega)
 rw [a0s h10]
 refine dv 5 ?_
 refine x0x rfl rfl rfl (a4v c p.kept (left - b7y p.lanes) (by omega)) ?_
 refine dc 5 (fun K K' => aI ?_ ?_)<;>intro hc4<;>try simp at hc4
 ·have hT := b3c hc4
  refine dv 3 ?_
  refine x1x rfl ?_ rfl
  exact congrArg (fun v : Int => [AV.pv (.int .i64 v)]) (a2o (by omega)).symm
 have h16 : p.kept.length ≤ (left - b7y p.lanes) := b1h (by omega)
 rw [a0s h16]
 refine dv 5 ?_
 refine x0x rfl rfl rfl (b0l c p.outs (left - b7y p.lanes - p.kept.length) (by omega)) ?_
 refine dc 5 (fun K K' => aI ?_ ?_)<;>intro hc6<;>try simp at hc6
 ·have hT := b3c hc6
  refine dv 3 ?_
  refine x1x rfl ?_ rfl
  exact congrArg (fun v : Int => [AV.pv (.int .i64 v)]) (a2o (by omega)).symm
 have h22 : p.outs.length ≤ ((left - b7y p.lanes) - p.kept.length) := b1h (by omega)
 rw [a0s h22]
 refine dv 5 ?_
 refine x0x rfl rfl rfl (c2f c p.views (left - b7y p.lanes - p.kept.length - p.outs.length) (by omega)) ?_
 refine dc 5 (fun K K' => aI ?_ ?_)<;>intro hc8<;>try simp at hc8
 ·have hT := b3c hc8
  refine dv 3 ?_
  refine x1x rfl ?_ rfl
  exact congrArg (fun v : Int => [AV.pv (.int .i64 v)]) (a2o (by omega)).symm
 have h28 : c3j p.views ≤ (((left - b7y p.lanes) - p.kept.length) - p.outs.length) := b1h (by omega)
 rw [a0s h28]
 refine dv 5 ?_
 refine x0x rfl rfl rfl (b0k c p.known (left - b7y p.lanes - p.kept.length - p.outs.length - c3j p.views) (by omega)) ?_
 refine dc 5 (fun K K' => aI ?_ ?_)<;>intro hc10<;>try simp at hc10
 ·have hT := b3c hc10
  refine dv 3 ?_
  refine x1x rfl ?_ rfl
  exact congrArg (fun v : Int => [AV.pv (.int .i64 v)]) (a2o (by omega)).symm
 have h34 : p.known.length ≤ ((((left - b7y p.lanes) - p.kept.length) - p.outs.length) - c3j p.views) := b1h (by omega)
 rw [a0s h34]
 refine dv 5 ?_
 refine x1x rfl ?_ rfl
 exact congrArg (fun v : Int => [AV.pv (.int .i64 v)]) ((a0s (by omega)).trans (by omega)).symm
end
section
theorem b3m (e : Ev) : r0r Tryz.prog 261 [.agg (y3y e)] (.agg (y3y e)) := by
 refine pX Tryz.f261 [.agg (y3y e)] 3 ?_
 refine dv 1 ?_
 refine x9x (id := 0) rfl rfl rfl (x3x (id := 1) y9y a6x rfl (dv 1 ?_))
 refine x3x (id := 2) y9y a6x rfl (dv 39 ?_)
 exact b9v rfl rfl rfl rfl
theorem c9a (e : Ou) : r0r Tryz.prog 262 [.agg (v8v e)] (.agg (v8v e)) := by
 refine pX Tryz.f262 [.agg (v8v e)] 3 ?_
 refine dv 1 ?_
 refine x9x (id := 0) rfl rfl rfl (x3x (id := 1) u1u b5g rfl (dv 1 ?_))
 refine x3x (id := 2) u1u b5g rfl (dv 29 ?_)
 exact b9v rfl rfl rfl rfl
theorem b3n (e : St) : r0r Tryz.prog 296 [.agg (p0p e)] (.agg (p0p e)) := by
 refine pX Tryz.f296 [.agg (p0p e)] 3 ?_
 refine dv 1 ?_
 refine x9x (id := 0) rfl rfl rfl (x3x (id := 1) a1l e3a rfl (dv 1 ?_))
 refine x3x (id := 2) a1l e3a rfl (dv 19 ?_)
 exact b9v rfl rfl rfl rfl
theorem a4w (c : Bool) (l : List Ev) (hl : l.length ≤ 1048576) : Meth Tryz.prog 184 1 [] [w7w c l] [(0, (0, .dead))] (.ref 0 0) [(0, (0, .row 56 7 (l.map y3y)))] := by
 refine mX Tryz.f184 [.ref 0 0] 1 0 fun γ => ?_
 refine dv 5 ?_
 refine a6z (id := 0) w2w rfl y9y a6x rfl rfl rfl rfl (by (simp only [a3c, a1u, a2b, a2g, a5e, T56]; omega)) rfl ?_
 refine dv 5 fun K K' => ?_
 refine x4x (ι := Nat) (fun i γ1 => [(4, pI (i : Int))]) (fun i γ1 => [(0, ((γ 0 + 1), .row 56 7 ((l.take i).map y3y ++ (l.drop i).map fun _ => [pI 0, pI 0, pI 0, pI 0, pI 0, pI 0, pI 0])))]) (fun i => i ≤ l.length) (fun i => l.length - i) (a0f [0, 3] rfl) HE.nil 0 (by omega) [] y2y (HE.row rfl (by rw [List.take_zero, List.drop_zero, List.map_const']; rfl) HE.nil) rfl fun i γ1 hi => ?_
 refine dc 6 (fun K K' => aS ?_ ?_)<;>intro h<;>try simp at h
 ·obtain rfl : i = l.length := by omega
  refine dv 5 ?_
  exact ⟨[_], rfl, rfl, HE.row rfl (by rw [List.take_length, List.drop_length, List.map_nil, List.append_nil]) HE.nil⟩
 obtain ⟨p, hp⟩ := gE l i
 have hAl : ((l.take i).map y3y).length = i := by rw [List.length_map, List.length_take]; omega
 rw [v1v hp, List.map_cons]
 refine dv 10 fun K K' => ?_
 refine x0x rfl rfl rfl (b3m p) (u0u rfl rfl w2w rfl y9y rfl rfl hAl (a2x hAl rfl rfl y9y rfl rfl rfl rfl (a0g _) rfl ?_))
 refine dv 2 ?_
 refine u2u rfl rfl rfl (dv 1 ?_)
 exact ⟨i + 1, ⟨by omega, by omega⟩, [], (Cov.cons' (t := 4) rfl (by rw [x6x (by omega) (by omega)]; rfl) Cov.nil), y2y, (HE.row rfl (by rw [z3z hp, List.map_append, List.append_assoc]; rfl) HE.nil), y1y, rfl⟩
theorem b0m (c : Bool) (l : List Ou) (hl : l.length ≤ 1048576) : Meth Tryz.prog 185 1 [] [r9r c l] [(0, (0, .dead))] (.ref 0 0) [(0, (0, .row 141 5 (l.map v8v)))] := by
 refine mX Tryz.f185 [.ref 0 0] 1 0 fun γ => ?_
 refine dv 5 ?_
 refine a6z (id := 0) q5q rfl u1u b5g rfl rfl rfl rfl (by (simp only [a3c, a1u, a2b, a2g, a5e, T141]; omega)) rfl ?_
 refine dv 5 fun K K' => ?_
 refine x4x (ι := Nat) (fun i γ1 => [(4, pI (i : Int))]) (fun i γ1 => [(0, ((γ 0 + 1), .row 141 5 ((l.take i).map v8v ++ (l.drop i).map fun _ => [pI 0, pI 0, pI 0, pI 0, pI 0])))]) (fun i => i ≤ l.length) (fun i => l.length - i) (a0f [0, 3] rfl) HE.nil 0 (by omega) [] y2y (HE.row rfl (by rw [List.take_zero, List.drop_zero, List.map_const']; rfl) HE.nil) rfl fun i γ1 hi => ?_
 refine dc 6 (fun K K' => aS ?_ ?_)<;>intro h<;>try simp at h
 ·obtain rfl : i = l.length := by omega
  refine dv 5 ?_
  exact ⟨[_], rfl, rfl, HE.row rfl (by rw [List.take_length, List.drop_length, List.map_nil, List.append_nil]) HE.nil⟩
 obtain ⟨p, hp⟩ := gE l i
 have hAl : ((l.take i).map v8v).length = i := by rw [List.length_map, List.length_take]; omega
 rw [v1v hp, List.map_cons]
 refine dv 10 fun K K' => ?_
 refine x0x rfl rfl rfl (c9a p) (u0u rfl rfl q5q rfl u1u rfl rfl hAl (a2x hAl rfl rfl u1u rfl rfl rfl rfl (a0g _) rfl ?_))
 refine dv 2 ?_
 refine u2u rfl rfl rfl (dv 1 ?_)
 exact ⟨i + 1, ⟨by omega, by omega⟩, [], (Cov.cons' (t := 4) rfl (by rw [x6x (by omega) (by omega)]; rfl) Cov.nil), y2y, (HE.row rfl (by rw [z3z hp, List.map_append, List.append_assoc]; rfl) HE.nil), y1y, rfl⟩
theorem c5y (c : Bool) (p : Pa) (hs : p.sends.length ≤ 1048576) (ho : p.outs.length ≤ 1048576) : Meth Tryz.prog 316 2 [] [.agg (a0t c p)] [(0, (0, .dead)), (1, (0, .dead))] (.agg [pI p.ev.time, pI p.ev.to, pI p.ev.from', pI p.ev.count, pI p.ev.n, pI p.ev.kind, pI p.ev.arg, pI p.after.x, pI p.after.y, pI p.after.count, .ref 0 0, .ref 1 0]) [(0, (0, .row 56 7 (p.sends.map y3y))), (1, (0, .row 141 5 (p.outs.map v8v)))] := by
 refine mX Tryz.f316 [.agg [pI p.ev.time, pI p.ev.to, pI p.ev.from', pI p.ev.count, pI p.ev.n, pI p.ev.kind, pI p.ev.arg, pI p.after.x, pI p.after.y, pI p.after.count, .ref 0 0, .ref 1 0]] 2 3 fun γ => ?_
 refine dv 1 ?_
 refine x9x (id := 2) rfl rfl rfl (x3x (id := 3) s1s b8c rfl (dv 1 ?_))
 refine x3x (id := 4) s1s b8c rfl (dv 2 ?_)
 refine u6u (out := .agg (y3y p.ev)) rfl d4q rfl rfl ?_
 refine x0x rfl rfl rfl (b3m ..) (dv 1 ?_)
 refine a1h (cs' := [pI p.ev.time, pI p.ev.to, pI p.ev.from', pI p.ev.count, pI p.ev.n, pI p.ev.kind, pI p.ev.arg, pI 0, pI 0, pI 0, .pv (.slice none 0 0), .pv (.slice none 0 0)]) rfl rfl y9y rfl rfl rfl rfl (a0w rfl) rfl ?_
 refine dv 2 ?_
 refine u6u (out := .agg (p0p p.after)) rfl d1h rfl rfl ?_
 refine x0x rfl rfl rfl (b3n ..) (dv 1 ?_)
 refine a1h (cs' := [pI p.ev.time, pI p.ev.to, pI p.ev.from', pI p.ev.count, pI p.ev.n, pI p.ev.kind, pI p.ev.arg, pI p.after.x, pI p.after.y, pI p.after.count, .pv (.slice none 0 0), .pv (.slice none 0 0)]) rfl rfl a1l rfl rfl rfl rfl (a0w rfl) rfl ?_
 refine dv 3 ?_
 refine rlM [0] [_] (a4w c p.sends hs) rfl rfl rfl ?_
 refine dv 5 ?_
 refine rlM [1] [_] (b0m c p.outs ho) rfl rfl rfl ?_
 refine dv 6 ?_
 exact ⟨[_, _], rfl, rfl, y1y⟩
theorem c2g (c : Bool) (l : List Pa) (hl : c4w l ≤ 1048576) : Meth Tryz.prog 297 1 [] [a3b c l] [(0, (0, .dead))] (.ref 0 0) [(0, (0, .row 58 12 (l.map a3g)))] := by
 refine mX Tryz.f297 [.ref 0 0] 1 2 fun γ => ?_
 have hc : c4w l = l.length + szs cPa l := rfl
 refine dv 5 ?_
 refine a6z (id := 0) a1m rfl s1s b8c rfl rfl rfl rfl (by (simp only [a3c, a1u, a2b, a2g, a5e, T58]; omega)) rfl ?_
 refine dv 5 fun K K' => ?_
 refine x4x (ι := Nat) (fun i γ1 => [(4, pI (i : Int))]) (fun i γ1 => [(1, ((γ1 1), .dead)), (2, ((γ1 2), .dead)), (0, ((γ 0 + 1), .row 58 12 ((l.take i).map a3g ++ (l.drop i).map fun _ => [pI 0, pI 0, pI 0, pI 0, pI 0, pI 0, pI 0, pI 0, pI 0, pI 0, .pv (.slice none 0 0), .pv (.slice none 0 0)])))]) (fun i => i ≤ l.length) (fun i => l.length - i) (a0f [0, 3] rfl) HE.nil 0 (by omega) [0, _, _] y2y (HE.kill rfl (HE.kill rfl (HE.row rfl (by rw [List.take_zero, List.drop_zero, List.map_const']; rfl) HE.nil))) rfl fun i γ1 hi => ?_
 refine dc 6 (fun K K' => aS ?_ ?_)<;>intro h<;>try simp at h
 ·obtain rfl : i = l.length := by omega
  refine dv 5 ?_
  exact ⟨[_], rfl, rfl, HE.row rfl (by rw [List.take_length, List.drop_length, List.map_nil, List.append_nil]) HE.nil⟩
 obtain ⟨p, hp⟩ := gE l i
 have hAl : ((l.take i).map a3g).length = i := by rw [List.length_map, List.length_take]; omega
 rw [v1v hp, List.map_cons]
 have hat := a2n cPa hp
 have hcp : cPa p = p.sends.length + p.outs.length := rfl
 refine dv 10 fun K K' => ?_
 refine rlM [1, 2] [_, _] (c5y c p (by omega) (by omega)) rfl rfl rfl ?_
 refine u0u rfl rfl a1m rfl s1s rfl rfl hAl (a2x hAl rfl rfl s1s rfl rfl rfl rfl (e2i rfl rfl rfl) rfl ?_)
 refine dv 2 ?_
 refine u2u rfl rfl rfl (dv 1 ?_)
 exact ⟨i + 1, ⟨by omega, by omega⟩, [0, _, _], (Cov.cons' (t := 4) rfl (by rw [x6x (by omega) (by omega)]; rfl) Cov.nil), y2y, (HE.kill rfl (HE.kill rfl (HE.row rfl (by rw [z3z hp, List.map_append, List.append_assoc]; rfl) HE.nil))), y1y, rfl⟩
theorem c5z (c : Bool) (p : La) (hs : c4w p.done ≤ 1048576) : Meth Tryz.prog 260 1 [] [.agg (q8q c p)] [(0, (0, .dead))] (.agg [pI p.proc, pI p.base.x, pI p.base.y, pI p.base.count, .ref 0 0]) [(0, (0, .row 58 12 (p.done.map a3g)))] := by
 refine mX Tryz.f260 [.agg [pI p.proc, pI p.base.x, pI p.base.y, pI p.base.count, .ref 0 0]] 1 3 fun γ => ?_
 refine dv 1 ?_
 refine x9x (id := 1) rfl rfl rfl (x3x (id := 2) s0s a6w rfl (dv 1 ?_))
 refine x3x (id := 3) s0s a6w rfl (dv 7 ?_)
 refine u6u (out := .agg (p0p p.base)) rfl d1h rfl rfl ?_
 refine x0x rfl rfl rfl (b3n ..) (dv 1 ?_)
 refine a1h (cs' := [pI p.proc, pI p.base.x, pI p.base.y, pI p.base.count, .pv (.slice none 0 0)]) rfl rfl a1l rfl rfl rfl rfl (a0w rfl) rfl ?_
 refine dv 3 ?_
 refine rlM [0] [_] (c2g c p.done hs) rfl rfl rfl ?_
 refine dv 6 ?_
 exact ⟨[_], rfl, rfl, y1y⟩
theorem c2h (c : Bool) (l : List La) (hl : b7y l ≤ 1048576) : Meth Tryz.prog 183 1 [] [c6p c l] [(0, (0, .dead))] (.ref 0 0) [(0, (0, .row 44 5 (l.map a0l)))] := by
 refine mX Tryz.f183 [.ref 0 0] 1 1 fun γ => ?_
 have hc : b7y l = l.length + szs cLa l := rfl
 refine dv 5 ?_
 refine a6z (id := 0) a5v rfl s0s a6w rfl rfl rfl rfl (by (simp only [a3c, a1u, a2b, a2g, a5e, T44]; omega)) rfl ?_
 refine dv 5 fun K K' => ?_
 refine x4x (ι := Nat) (fun i γ1 => [(4, pI (i : Int))]) (fun i γ1 => [(1, ((γ1 1), .dead)), (0, ((γ 0 + 1), .row 44 5 ((l.take i).map a0l ++ (l.drop i).map fun _ => [pI 0, pI 0, pI 0, pI 0, .pv (.slice none 0 0)])))]) (fun i => i ≤ l.length) (fun i => l.length - i) (a0f [0, 3] rfl) HE.nil 0 (by omega) [0, _] y2y (HE.kill rfl (HE.row rfl (by rw [List.take_zero, List.drop_zero, List.map_const']; rfl) HE.nil)) rfl fun i γ1 hi => ?_
 refine dc 6 (fun K K' => aS ?_ ?_)<;>intro h<;>try simp at h
 ·obtain rfl : i = l.length := by omega
  refine dv 5 ?_
  exact ⟨[_], rfl, rfl, HE.row rfl (by rw [List.take_length, List.drop_length, List.map_nil, List.append_nil]) HE.nil⟩
 obtain ⟨p, hp⟩ := gE l i
 have hAl : ((l.take i).map a0l).length = i := by rw [List.length_map, List.length_take]; omega
 rw [v1v hp, List.map_cons]
 have hat := a2n cLa hp
 have hcp : cLa p = c4w p.done := rfl
 refine dv 10 fun K K' => ?_
 refine rlM [1] [_] (c5z c p (by omega)) rfl rfl rfl ?_
 refine u0u rfl rfl a5v rfl s0s rfl rfl hAl (a2x hAl rfl rfl s0s rfl rfl rfl rfl (e2j rfl) rfl ?_)
 refine dv 2 ?_
 refine u2u rfl rfl rfl (dv 1 ?_)
 exact ⟨i + 1, ⟨by omega, by omega⟩, [0, _], (Cov.cons' (t := 4) rfl (by rw [x6x (by omega) (by omega)]; rfl) Cov.nil), y2y, (HE.kill rfl (HE.row rfl (by rw [z3z hp, List.map_append, List.append_assoc]; rfl) HE.nil)), y1y, rfl⟩
theorem c6a (c : Bool) (p : Vi) (hs : p.events.length ≤ 1048576) : Meth Tryz.prog 263 1 [] [.agg (a1f c p)] [(0, (0, .dead))] (.agg [pI p.inc, pI p.version, .ref 0 0]) [(0, (0, .row 56 7 (p.events.map y3y)))] := by
 refine mX Tryz.f263 [.agg [pI p.inc, pI p.version, .ref 0 0]] 1 3 fun γ => ?_
 refine dv 1 ?_
 refine x9x (id := 1) rfl rfl rfl (x3x (id := 2) p7p a4c rfl (dv 1 ?_))
 refine x3x (id := 3) p7p a4c rfl (dv 13 ?_)
 refine rlM [0] [_] (a4w c p.events hs) rfl rfl rfl ?_
 refine dv 6 ?_
 exact ⟨[_], rfl, rfl, y1y⟩
theorem c2i (c : Bool) (l : List Vi) (hl : c3j l ≤ 1048576) : Meth Tryz.prog 186 1 [] [c6q c l] [(0, (0, .dead))] (.ref 0 0) [(0, (0, .row 190 3 (l.map a0u)))] := by
 refine mX Tryz.f186 [.ref 0 0] 1 1 fun γ => ?_
 have hc : c3j l = l.length + szs cVi l := rfl
 refine dv 5 ?_
 refine a6z (id := 0) a9e rfl p7p a4c rfl rfl rfl rfl (by (simp only [a3c, a1u, a2b, a2g, a5e, T190]; omega)) rfl ?_
 refine dv 5 fun K K' => ?_
 refine x4x (ι := Nat) (fun i γ1 => [(4, pI (i : Int))]) (fun i γ1 => [(1, ((γ1 1), .dead)), (0, ((γ 0 + 1), .row 190 3 ((l.take i).map a0u ++ (l.drop i).map fun _ => [pI 0, pI 0, .pv (.slice none 0 0)])))]) (fun i => i ≤ l.length) (fun i => l.length - i) (a0f [0, 3] rfl) HE.nil 0 (by omega) [0, _] y2y (HE.kill rfl (HE.row rfl (by rw [List.take_zero, List.drop_zero, List.map_const']; rfl) HE.nil)) rfl fun i γ1 hi => ?_
 refine dc 6 (fun K K' => aS ?_ ?_)<;>intro h<;>try simp at h
 ·obtain rfl : i = l.length := by omega
  refine dv 5 ?_
  exact ⟨[_], rfl, rfl, HE.row rfl (by rw [List.take_length, List.drop_length, List.map_nil, List.append_nil]) HE.nil⟩
 obtain ⟨p, hp⟩ := gE l i
 have hAl : ((l.take i).map a0u).length = i := by rw [List.length_map, List.length_take]; omega
 rw [v1v hp, List.map_cons]
 have hat := a2n cVi hp
 have hcp : cVi p = p.events.length := rfl
 refine dv 10 fun K K' => ?_
 refine rlM [1] [_] (c6a c p (by omega)) rfl rfl rfl ?_
 refine u0u rfl rfl a9e rfl p7p rfl rfl hAl (a2x hAl rfl rfl p7p rfl rfl rfl rfl (e2k rfl) rfl ?_)
 refine dv 2 ?_
 refine u2u rfl rfl rfl (dv 1 ?_)
 exact ⟨i + 1, ⟨by omega, by omega⟩, [0, _], (Cov.cons' (t := 4) rfl (by rw [x6x (by omega) (by omega)]; rfl) Cov.nil), y2y, (HE.kill rfl (HE.row rfl (by rw [z3z hp, List.map_append, List.append_assoc]; rfl) HE.nil)), y1y, rfl⟩
theorem b0n (c : Bool) (l : List Int) (hl : l.length ≤ 1048576) : Meth Tryz.prog 187 1 [] [a5d c l] [(0, (0, .dead))] (.ref 0 0) [(0, (0, .row 3 1 (l.map r5r)))] := by
 refine mX Tryz.f187 [.ref 0 0] 1 0 fun γ => ?_
 refine dv 5 ?_
 refine a6z (id := 0) a0i rfl w1w e7l rfl rfl rfl rfl (by (simp only [a3c, a1u, a2b, a2g, a5e, T3]; omega)) rfl ?_
 refine dv 5 fun K K' => ?_
 refine x4x (ι := Nat) (fun i γ1 => [(4, pI (i : Int))]) (fun i γ1 => [(0, ((γ 0 + 1), .row 3 1 ((l.take i).map r5r ++ (l.drop i).map fun _ => [pI 0])))]) (fun i => i ≤ l.length) (fun i => l.length - i) (a0f [0, 3] rfl) HE.nil 0 (by omega) [] y2y (HE.row rfl (by rw [List.take_zero, List.drop_zero, List.map_const']; rfl) HE.nil) rfl fun i γ1 hi => ?_
 refine dc 6 (fun K K' => aS ?_ ?_)<;>intro h<;>try simp at h
 ·obtain rfl : i = l.length := by omega
  refine dv 5 ?_
  exact ⟨[_], rfl, rfl, HE.row rfl (by rw [List.take_length, List.drop_length, List.map_nil, List.append_nil]) HE.nil⟩
 obtain ⟨p, hp⟩ := gE l i
 have hAl : ((l.take i).map r5r).length = i := by rw [List.length_map, List.length_take]; omega
 rw [v1v hp, List.map_cons]
 refine dv 10 fun K K' => ?_
 refine u0u rfl rfl a0i rfl w1w rfl rfl hAl (z6z hAl rfl rfl w1w rfl rfl rfl rfl rfl rfl rfl rfl (dv 2 ?_))
 refine u2u rfl rfl rfl (dv 1 ?_)
 exact ⟨i + 1, ⟨by omega, by omega⟩, [], (Cov.cons' (t := 4) rfl (by rw [x6x (by omega) (by omega)]; rfl) Cov.nil), y2y, (HE.row rfl (by rw [z3z hp, List.map_append, List.append_assoc]; rfl) HE.nil), y1y, rfl⟩
theorem a6j (c : Bool) (n : Nd) (hl : cNd n ≤ 1048576) : Meth Tryz.prog 75 5 [] [.agg (r4r c n)] [(0, (0, .dead)), (1, (0, .dead)), (2, (0, .dead)), (3, (0, .dead)), (4, (0, .dead))] (.agg [pI n.id, .pv (.bool n.up), pI n.inc, pI n.g, .ref 0 0, .ref 1 0, .ref 2 0, pI n.led, pI n.version, .ref 3 0, .ref 4 0, pI n.round, pI n.low]) [(0, (0, .row 44 5 (n.lanes.map a0l))), (1, (0, .row 56 7 (n.kept.map y3y))), (2, (0, .row 141 5 (n.outs.map v8v))), (3, (0, .row 190 3 (n.views.map a0u))), (4, (0, .row 3 1 (n.known.map r5r)))] := by
 refine mX Tryz.f75 [.agg [pI n.id, .pv (.bool n.up), pI n.inc, pI n.g, .ref 0 0, .ref 1 0, .ref 2 0, pI n.led, pI n.version, .ref 3 0, .ref 4 0, pI n.round, pI n.low]] 5 3 fun γ => ?_
 have hc : cNd n = b7y n.lanes + n.kept.length + n.outs.length + c3j n.views + n.known.length := rfl
 refine dv 1 ?_
 refine x9x (id := 5) rfl rfl rfl (x3x (id := 6) a0o a0p rfl (dv 1 ?_))
 refine x3x (id := 7) a0o a0p rfl (dv 23 ?_)
 refine rlM [0] [_] (c2h c n.lanes (by omega)) rfl rfl rfl ?_
 refine dv 5 ?_
 refine rlM [1] [_] (a4w c n.kept (by omega)) rfl rfl rfl ?_
 refine dv 5 ?_
 refine rlM [2] [_] (b0m c n.outs (by omega)) rfl rfl rfl ?_
 refine dv 15 ?_
 refine rlM [3] [_] (c2i c n.views (by omega)) rfl rfl rfl ?_
 refine dv 5 ?_
 refine rlM [4] [_] (b0n c n.known (by omega)) rfl rfl rfl ?_
 refine dv 16 ?_
 exact ⟨[_, _, _, _, _], rfl, rfl, y1y⟩
end
section
def cWo (w : Wo) : Nat := w.incs.length + w.versions.length + w.events.length + w.outs.length
theorem e7h (w : Wo) : zWl w ≤ 7 * cWo w := by
 unfold zWl cWo
 rw [d0f, d0f, e2b, e2c]; omega
theorem d3u (n : Nd) (w : Wo) : cNd (y4y n w).1 ≤ 3000 ∧ szs zWo (y4y n w).2 ≤ 3000 := by
 have h0 : szs zWo ([] : List Wo) ≤ 3000 := Nat.zero_le _
 by_cases h : w3w n
 ·have hb := v2v h.1
  have hn : cNd n ≤ 3000 := by omega
  by_cases m : a3i n w
  ·rw [a4u h m]
   by_cases k1 : w.kind = 1
   ·rw [d0n k1]; exact ⟨d3o n _ _ _ _ _, h0⟩
   ·by_cases k2 : w.kind = 2
    ·by_cases r : (x7x n w.round).2.2 = true
     ·rw [c5n k2 r]
      have q := c8q n w.round
      refine ⟨q.1, ?_⟩
      have e : zWo (x7x n w.round).2.1 = 7 + zWl (x7x n w.round).2.1 := by unfold zWo zWl; omega
      show zWo _ + 0 ≤ 3000
      omega
     ·rw [c5o k2 r]; exact ⟨hn, h0⟩
    ·by_cases k4 : w.kind = 4
     ·by_cases r : w.round = n.round ∧ 0 < w.round
      ·rw [c5p k4 r]; exact ⟨hn, by show zWo (e7p n) + 0 ≤ 3000; show 7 + 0 + 0 + 0 + 0 + 0 ≤ 3000; omega⟩
      ·rw [b6g k4 r]; exact ⟨hn, h0⟩
     ·by_cases k6 : w.kind = 6
      ·by_cases r : w.inc = n.inc
       ·rw [c5q k6 r]; exact ⟨c8t n _ _, h0⟩
       ·rw [c5r k6 r]; exact ⟨hn, h0⟩
      ·rw [c5s k1 k2 k4 k6]; exact ⟨hn, h0⟩
  ·rw [b6f h m]; exact ⟨hn, h0⟩
 ·rw [d8e h]; exact ⟨by show cNd nd0 ≤ 3000; decide, h0⟩
end
section
theorem c6b (c : Bool) (p : Wo) (left : Nat) (hl : left ≤ 1048576) : r0r Tryz.prog 73 [.agg (a5z c p), .pv (.int .i64 (left : Int))] (.pv (.int .i64 (lf left (cWo p)))) := by
 refine pX Tryz.f73 [.pv (.int .i64 (lf left (cWo p)))] 1 ?_
 have hc : cWo p = p.incs.length + p.versions.length + p.events.length + p.outs.length := rfl
 refine dv 1 ?_
 refine x9x (id := 0) rfl rfl rfl (dv 5 ?_)
 refine x0x rfl rfl rfl (b0k c p.incs left hl) (dc 5 (fun K K' => aI ?_ ?_))<;>intro hc2<;>try simp at hc2
 ·have hT := b3c hc2
  refine dv 3 ?_
  refine x1x rfl ?_ rfl
  exact congrArg (fun v : Int => [AV.pv (.int .i64 v)]) (a2o (by omega)).symm
 have h10 : p.incs.length ≤ left := b1h (by omega)
 rw [a0s h10]
 refine dv 5 ?_
 refine x0x rfl rfl rfl (b0k c p.versions (left - p.incs.length) (by omega)) ?_
 refine dc 5 (fun K K' => aI ?_ ?_)<;>intro hc4<;>try simp at hc4
 ·have hT := b3c hc4
  refine dv 3 ?_
  refine x1x rfl ?_ rfl
  exact congrArg (fun v : Int => [AV.pv (.int .i64 v)]) (a2o (by omega)).symm
 have h16 : p.versions.length ≤ (left - p.incs.length) := b1h (by omega)
 rw [a0s h16]
 refine dv 5 ?_
 refine x0x rfl rfl rfl (a4v c p.events (left - p.incs.length - p.versions.length) (by omega)) ?_
 refine dc 5 (fun K K' => aI ?_ ?_)<;>intro hc6<;>try simp at hc6
 ·have hT := b3c hc6
  refine dv 3 ?_
  refine x1x rfl ?_ rfl
  exact congrArg (fun v : Int => [AV.pv (.int .i64 v)]) (a2o (by omega)).symm
 have h22 : p.events.length ≤ ((left - p.incs.length) - p.versions.length) := b1h (by omega)
 rw [a0s h22]
 refine dv 5 ?_
 refine x0x rfl rfl rfl (b0l c p.outs (left - p.incs.length - p.versions.length - p.events.length) (by omega)) ?_
 refine dc 5 (fun K K' => aI ?_ ?_)<;>intro hc8<;>try simp at hc8
 ·have hT := b3c hc8
  refine dv 3 ?_
  refine x1x rfl ?_ rfl
  exact congrArg (fun v : Int => [AV.pv (.int .i64 v)]) (a2o (by omega)).symm
 have h28 : p.outs.length ≤ (((left - p.incs.length) - p.versions.length) - p.events.length) := b1h (by omega)
 rw [a0s h28]
 refine dv 5 ?_
 refine x1x rfl ?_ rfl
 exact congrArg (fun v : Int => [AV.pv (.int .i64 v)]) ((a0s (by omega)).trans (by omega)).symm
theorem a6k (c : Bool) (p : Wo) (hl : cWo p ≤ 1048576) : Meth Tryz.prog 76 4 [] [.agg (a5z c p)] [(0, (0, .dead)), (1, (0, .dead)), (2, (0, .dead)), (3, (0, .dead))] (.agg [pI p.kind, pI p.from', pI p.to, pI p.inc, pI p.version, pI p.round, pI p.g, .ref 0 0, .ref 1 0, .ref 2 0, .ref 3 0]) [(0, (0, .row 3 1 ((p.incs).map r5r))), (1, (0, .row 3 1 ((p.versions).map r5r))), (2, (0, .row 56 7 (p.events.map y3y))), (3, (0, .row 141 5 (p.outs.map v8v)))] := by
 refine mX Tryz.f76 [.agg [pI p.kind, pI p.from', pI p.to, pI p.inc, pI p.version, pI p.round, pI p.g, .ref 0 0, .ref 1 0, .ref 2 0, .ref 3 0]] 4 3 fun γ => ?_
 have hc : cWo p = p.incs.length + p.versions.length + p.events.length + p.outs.length := rfl
 refine dv 1 ?_
 refine x9x (id := 4) rfl rfl rfl (x3x (id := 5) a0v a9f rfl (dv 1 ?_))
 refine x3x (id := 6) a0v a9f rfl (dv 38 ?_)
 refine rlM [0] [_] (b0n c p.incs (by omega)) rfl rfl rfl ?_
 refine dv 5 ?_
 refine rlM [1] [_] (b0n c p.versions (by omega)) rfl rfl rfl ?_
 refine dv 5 ?_
 refine rlM [2] [_] (a4w c p.events (by omega)) rfl rfl rfl ?_
 refine dv 5 ?_
 refine rlM [3] [_] (b0m c p.outs (by omega)) rfl rfl rfl ?_
 refine dv 6 ?_
 exact ⟨[_, _, _, _], rfl, rfl, y1y⟩
end
section
variable {P : Program} {ev : Operand → Option AV}
section
variable {tt : TT} {ops : Array Oper} {r : List Oper} {fr : Fr} {h : Hp} {lg : Log} {K : Fr → Hp → Log → Prop} {d : Nat} {ty : TypeId} {pos : String} {af : Array Edge}
def e0m : TK → Bool
 | .int _ => true
 | .str => true
 | .st _ => true
 | .arr _ _ => true
 | .sl _ => true
 | _ => false
end
theorem s8s {n : Nat} {fr : Fr} {h : Hp} {Q : Exit → Fr → Hp → Prop} {c : Code} (id : Nat) {g : Nat} {e : Ent} (hh : y0y h id = some (g, e)) (k : Ex P n c fr ((id, (g, .dead)) :: h) Q) : Ex P n c fr h Q := by
 refine d4o (Cov.refl fr) ⟨fun i ge hg => ?_, fun i hn => ?_⟩ k
 ·rw [u8u] at hg
  split at hg
  ·rename_i q; subst q; cases hg; exact ⟨_, hh, .inr rfl⟩
  ·exact ⟨ge.2, hg, .inl rfl⟩
 ·rw [u8u] at hn
  split at hn
  ·cases hn
  ·exact hn
theorem Grew.alloc (w : World) (o : Obj) : Grew w (w.alloc o) [] := ⟨rfl, rfl, rfl, by show w.heap.size ≤ (w.heap.push o).size; rw [Array.size_push]; omega, fun b hb _ => by show (w.heap.push o)[b]? = _; rw [Array.getElem?_push, if_neg (Nat.ne_of_lt hb)]⟩
end
section
variable {P : Program} {tt : TT} {ops : Array Oper} {r : List Oper} {fr : Fr} {h : Hp} {lg : Log} {K : Fr → Hp → Log → Prop} {d : Nat} {ty : TypeId} {pos : String} {af : Array Edge} {ev : Operand → Option AV}
variable {o : Oper} {t : Nat} {x : Operand} {S : TS} {av : AV}
theorem e0n (htt : a1k P tt) (ho : o.op = .makeInterface t x) (hx : ev x = some av) (hs : tt t = some S) (hn : e0m S.kind = true) : OpS P o ev [] [] (.ifc t av) :=
 .quiet fun X B hF a w hS hop hT => by
  have e := hop x (by simp [ho, Op.operands]) _ hx
  obtain ⟨d1, q1, q2⟩ := (htt _ _ hs).desc
  refine ⟨.iface t (a.eval x), ?_, .ifc _ _ _ e⟩
  simp only [execOp, ho]
  cases hk : S.kind <;> rw [hk] at q2 hn <;> first
   | (cases hn; done)
   | (simp only [KOk] at q2; subst q2; simp [Instr.makeInterface, run_underlying q1])
   | (simp only [KOk] at q2; obtain ⟨_, rfl⟩ := q2; simp [Instr.makeInterface, run_underlying q1])
   | (simp only [KOk] at q2; obtain ⟨_, rfl, _⟩ := q2; simp [Instr.makeInterface, run_underlying q1])
theorem b4o (htt : a1k P tt) (hx : evO fr x = some av) (hs : tt t = some S) (hn : e0m S.kind = true) (k : u5u P tt ops r ((d, .ifc t av) :: fr) h (([], []) :: lg) K) :
  u5u P tt ops (⟨some d, .makeInterface t x, ty, pos, af, none⟩ :: r) fr h lg K := a4j (e0n htt rfl hx hs hn) .nil .nil k
variable {xT asserted : Nat}
theorem e7i (htt : a1k P tt) (ho : o.op = .typeAssert x xT asserted true) (hx : ev x = some (.ifc t av)) (hs : tt asserted = some S) (hn : e0m S.kind = true) :
  OpS P o ev [] [] (.tup [if t = asserted then av else b4f S, .pv (.bool (decide (t = asserted)))]) :=
 .quiet fun X B hF a w hS hop hT => by
  obtain ⟨u, e, hu⟩ := (hop x (by simp [ho, Op.operands]) _ hx).ifc_inv
  have hz := (htt _ _ hs).zeroValue w
  obtain ⟨d1, q1, q2⟩ := (htt _ _ hs).desc
  have hd : ∀ ms, d1 ≠ .interface ms := fun ms q => by
   subst q
   cases hk : S.kind <;> rw [hk] at q2 hn <;> first
    | (cases hn; done)
    | (simp [KOk] at q2; done)
  by_cases c : t = asserted
  ·refine ⟨.tuple #[u, .bool true], ?_, ?_⟩
   ·simp only [execOp, ho, e, Instr.typeAssert, Sem.run_bind, run_underlying q1, Result.andThen_ok]
    cases d1 <;> first | exact absurd rfl (hd _) | simp [c]
   ·rw [if_pos c, decide_eq_true c]
    refine .tup [u, .bool true] rfl fun i y v hy hv => ?_
    match i with
    | 0 => simp at hy hv; subst hy hv; exact hu
    | 1 => simp at hy hv; subst hy hv; exact .pv _
    | i + 2 => simp at hy
  ·refine ⟨.tuple #[if S.agg then .agg S.zero.toArray else S.zero.getD 0 undef, .bool false], ?_, ?_⟩
   ·simp only [execOp, ho, e, Instr.typeAssert, Sem.run_bind, run_underlying q1, Result.andThen_ok]
    cases d1 <;> first | exact absurd rfl (hd _) | simp [c, hz]
   ·rw [if_neg c, decide_eq_false c]
    refine .tup [_, .bool false] rfl fun i y v hy hv => ?_
    match i with
    | 0 => simp at hy hv; subst hy hv; exact b5l (htt _ _ hs)
    | 1 => simp at hy hv; subst hy hv; exact .pv _
    | i + 2 => simp at hy
theorem e0o (htt : a1k P tt) {av z : AV} (hx : evO fr x = some (.ifc t av)) (hs : tt asserted = some S) (hn : e0m S.kind = true) (hz : b4f S = z) (k : u5u P tt ops r ((d, .tup [if t = asserted then av else z, .pv (.bool (decide (t = asserted)))]) :: fr) h (([], []) :: lg) K) :
  u5u P tt ops (⟨some d, .typeAssert x xT asserted true, ty, pos, af, none⟩ :: r) fr h lg K := by
 subst hz; exact a4j (e7i htt rfl hx hs hn) .nil .nil k
end
section
inductive Td where
 | tells
 | ask
 | one
 | more
 | two
 | done
 | outs
def tdT : Td → Nat
 | .tells => 180
 | .ask => 219
 | .one => 192
 | .more => 220
 | .two => 222
 | .done => 224
 | .outs => 183
def tdA (c : Bool) (w : Wo) : Td → AV
 | .tells => .agg [pI w.inc, pI w.version, pI w.g, w7w c w.events]
 | .ask => .agg [pI w.round]
 | .one => .agg [pI w.inc, pI w.round, pI w.g, a5d c w.incs, a5d c w.versions]
 | .more => .agg [pI w.round]
 | .two => .agg [pI w.inc, pI w.round, pI w.version]
 | .done => .agg [pI w.inc, pI w.round, pI w.g]
 | .outs => .agg [pI w.g, r9r c w.outs]
def tdK (k : Int) : Td → Prop
 | .tells => k = 1
 | .ask => k = 2
 | .one => k = 3
 | .more => k = 4
 | .two => k = 5
 | .done => k = 6
 | .outs => ¬ k = 1 ∧ ¬ k = 2 ∧ ¬ k = 3 ∧ ¬ k = 4 ∧ ¬ k = 5 ∧ ¬ k = 6
theorem c6d {a b : Td} (h : tdT a = tdT b) : a = b := by cases a <;> cases b <;> first | rfl | (simp [tdT] at h)
end
section
theorem b8f (c : Bool) (w : Wo) : MethE Tryz.prog 188 0 [.agg (a5z c w)] [] (ι := Td) (fun S' => tdK w.kind S') (fun S' => []) (fun S' => .ifc (tdT S') (tdA c w S')) (fun S' => []) := by
 refine b9u z9z (fn := Tryz.f188) (by kernel_rfl) (by kernel_rfl) rfl (ι := Td) (OF := fun S' => [.ifc (tdT S') (tdA c w S')]) 0 1 (a0w rfl) (by rfl) (fun i _ => by cases i <;> rfl) (by repeat (exact BndH.nil)) (fun _ _ => (by repeat (exact BndH.nil))) (fun i _ => by cases i <;> rfl) fun γ => ?_
 show Ex Tryz.prog _ _ [(0, .agg (a5z c w))] [(0, (0, .dead))] _
 refine dv 1 ?_
 refine x9x (id := 0) rfl rfl rfl (dc 9 (fun K K' => aI ?_ ?_))<;>intro hc2<;>try simp at hc2
 ·have k1 : w.kind = 1 := hc2
  refine dv 9 ?_
  refine rlB d1a e1i ?_
  refine b4o z9z rfl d1a rfl (dv 2 ?_)
  exact ⟨.tells, k1, [], rfl, rfl, y1y⟩
 have n1 : ¬ w.kind = 1 := hc2
 refine dc 3 (aI ?_ ?_)<;>intro hc3<;>try simp at hc3
 ·have k2 : w.kind = 2 := hc3
  refine dv 3 ?_
  refine rlB d1c e1j ?_
  refine b4o z9z rfl d1c rfl (dv 2 ?_)
  exact ⟨.ask, k2, [], rfl, rfl, y1y⟩
 have n2 : ¬ w.kind = 2 := hc3
 refine dc 3 (aI ?_ ?_)<;>intro hc4<;>try simp at hc4
 ·have k3 : w.kind = 3 := hc4
  refine dv 11 ?_
  refine rlB d1b d4u ?_
  refine b4o z9z rfl d1b rfl (dv 2 ?_)
  exact ⟨.one, k3, [], rfl, rfl, y1y⟩
 have n3 : ¬ w.kind = 3 := hc4
 refine dc 3 (aI ?_ ?_)<;>intro hc5<;>try simp at hc5
 ·have k4 : w.kind = 4 := hc5
  refine dv 3 ?_
  refine rlB d1e e1k ?_
  refine b4o z9z rfl d1e rfl (dv 2 ?_)
  exact ⟨.more, k4, [], rfl, rfl, y1y⟩
 have n4 : ¬ w.kind = 4 := hc5
 refine dc 3 (aI ?_ ?_)<;>intro hc6<;>try simp at hc6
 ·have k5 : w.kind = 5 := hc6
  refine dv 7 ?_
  refine rlB d1f d4v ?_
  refine b4o z9z rfl d1f rfl (dv 2 ?_)
  exact ⟨.two, k5, [], rfl, rfl, y1y⟩
 have n5 : ¬ w.kind = 5 := hc6
 refine dc 3 (aI ?_ ?_)<;>intro hc7<;>try simp at hc7
 ·have k6 : w.kind = 6 := hc7
  refine dv 7 ?_
  refine rlB d1g e1l ?_
  refine b4o z9z rfl d1g rfl (dv 2 ?_)
  exact ⟨.done, k6, [], rfl, rfl, y1y⟩
 have n6 : ¬ w.kind = 6 := hc7
 refine dv 6 ?_
 refine rlB e1b e5v ?_
 refine b4o z9z rfl e1b rfl (dv 2 ?_)
 exact ⟨.outs, ⟨n1, n2, n3, n4, n5, n6⟩, [], rfl, rfl, y1y⟩
theorem b4p (i r v f t : Int) : Meth Tryz.prog 189 0 [] [.agg [pI i, pI r, pI v], .pv (.int .i64 f), .pv (.int .i64 t)] [] (.agg [pI 5, pI f, pI t, pI i, pI v, pI r, pI 0, .pv (.slice none 0 0), .pv (.slice none 0 0), .pv (.slice none 0 0), .pv (.slice none 0 0)]) [] := by
 refine mX Tryz.f189 [.agg [pI 5, pI f, pI t, pI i, pI v, pI r, pI 0, .pv (.slice none 0 0), .pv (.slice none 0 0), .pv (.slice none 0 0), .pv (.slice none 0 0)]] 0 2 fun γ => ?_
 refine dv 1 ?_
 refine x9x (id := 0) rfl rfl rfl (x3x (id := 1) a0v a9f rfl (dv 9 ?_))
 refine rlB a0v a9f ?_
 refine dv 2 ?_
 exact ⟨[], rfl, rfl, y1y⟩
end
section
theorem y7y (v lo hi : Int) : r0r Tryz.prog 162 [.pv (.int .i64 v), .pv (.int .i64 lo), .pv (.int .i64 hi)] (.pv (.bool (decide (lo ≤ v ∧ v ≤ hi)))) := by
 refine pX Tryz.f162 [.pv (.bool (decide (lo ≤ v ∧ v ≤ hi)))] 0 ?_
 refine dc 7 (aS ?_ ?_)<;>intro h<;>try simp at h
 ·refine dv 5 ?_
  refine x1x rfl ?_ rfl
  simp; omega
 refine dv 6 ?_
 refine x1x rfl ?_ rfl
 simp; omega
theorem z1z (v lo hi : Int) : r0r Tryz.prog 136 [.pv (.int .i64 v), .pv (.int .i64 lo), .pv (.int .i64 hi)] (.pv (.bool (decide (lo ≤ v ∧ v ≤ hi)))) := by
 refine pX Tryz.f136 [.pv (.bool (decide (lo ≤ v ∧ v ≤ hi)))] 0 ?_
 refine dc 7 (aS ?_ ?_)<;>intro h<;>try simp at h
 ·refine dv 5 ?_
  refine x1x rfl ?_ rfl
  simp; omega
 refine dv 6 ?_
 refine x1x rfl ?_ rfl
 simp; omega
theorem a6l (p : Int) : r0r Tryz.prog 139 [.pv (.int .i64 p)] (.pv (.bool (decide (0 ≤ p ∧ p ≤ 3)))) := by
 refine pX Tryz.f139 [.pv (.bool (decide (0 ≤ p ∧ p ≤ 3)))] 0 ?_
 refine dv 4 ?_
 refine x0x rfl rfl rfl (y7y ..) (dv 2 ?_)
 exact x1x rfl rfl rfl
theorem a6m (p : Int) : r0r Tryz.prog 117 [.pv (.int .i64 p)] (.pv (.bool (decide (0 ≤ p ∧ p ≤ 3)))) := by
 refine pX Tryz.f117 [.pv (.bool (decide (0 ≤ p ∧ p ≤ 3)))] 0 ?_
 refine dv 4 ?_
 refine x0x rfl rfl rfl (z1z ..) (dv 2 ?_)
 exact x1x rfl rfl rfl
theorem a6n (p : Int) : r0r Tryz.prog 137 [.pv (.int .i64 p)] (.pv (.bool (decide (0 ≤ p ∧ p ≤ 2)))) := by
 refine pX Tryz.f137 [.pv (.bool (decide (0 ≤ p ∧ p ≤ 2)))] 0 ?_
 refine dv 4 ?_
 refine x0x rfl rfl rfl (y7y ..) (dv 2 ?_)
 exact x1x rfl rfl rfl
theorem a4x (p : Int) : r0r Tryz.prog 42 [.pv (.int .i64 p)] (.pv (.int .i64 (q0q p))) := by
 refine pX Tryz.f42 [.pv (.int .i64 (q0q p))] 0 ?_
 refine dv 5 fun K K' => ?_
 refine x0x rfl rfl rfl (a6l ..) (dc 1 (aI ?_ ?_))<;>intro h<;>try simp at h
 ·refine dv 3 ?_
  refine x1x rfl ?_ rfl
  simp [q0q]; omega
 refine dv 3 ?_
 refine u2u rfl rfl rfl (dv 2 ?_)
 refine x1x rfl ?_ rfl
 simp [q0q]; omega
theorem a4y (p : Int) : r0r Tryz.prog 123 [.pv (.int .i64 p)] (.pv (.int .i64 (q0q p))) := by
 refine pX Tryz.f123 [.pv (.int .i64 (q0q p))] 0 ?_
 refine dv 5 fun K K' => ?_
 refine x0x rfl rfl rfl (a6m ..) (dc 1 (aI ?_ ?_))<;>intro h<;>try simp at h
 ·refine dv 3 ?_
  refine x1x rfl ?_ rfl
  simp [q0q]; omega
 refine dv 3 ?_
 refine u2u rfl rfl rfl (dv 2 ?_)
 refine x1x rfl ?_ rfl
 simp [q0q]; omega
theorem a3t (id : Int) : r0r Tryz.prog 130 [.pv (.int .i64 id)] (a5d true (a0j id 4)) := by
 refine pX Tryz.f130 [a5d true (a0j id 4)] 2 ?_
 refine dv 8 fun K K' => ?_
 refine w6w 3 1 3 1 rfl rfl ?_
 refine x4x (ι := Nat) (fun i γ1 => [(3, .ref 1 (γ1 1)), (5, pI (i : Int))]) (fun i γ1 => [(1, ((γ1 1), .row 3 1 ((a0j id i).map r5r))), (0, ((γ1 0), .dead))]) (fun i => i ≤ 4) (fun i => 4 - i) (x5x 0 rfl Cov.nil) HE.nil 0 (by omega) [_, _] y2y y1y rfl fun i γ1 hi => ?_
 refine dc 3 (fun K K' => aS ?_ ?_)<;>intro h<;>try simp at h
 ·refine dv 5 ?_
  refine d5g rfl rfl (fun _ => rfl) ?_
  have : i = 4 := by omega
  rw [this]
 refine dv 8 fun K K' => ?_
 refine x0x rfl rfl rfl (a4x ..) (dc 2 (aS ?_ ?_))<;>intro h<;>try simp at h
 ·refine dv 2 ?_
  refine u2u rfl rfl rfl (dv 1 ?_)
  exact ⟨i + 1, ⟨by omega, by omega⟩, [_, _], (x5x 3 rfl (Cov.cons' (t := 5) rfl (by rw [x6x (by omega) (by omega)]; rfl) Cov.nil)), y2y, (HE.row rfl (by simp only [a9k]; rw [if_neg (by assumption)]) (HE.kill rfl HE.nil)), y1y, rfl⟩
 refine dv 3 ?_
 refine a6y (id := 0) a0i rfl w1w rfl rfl rfl rfl rfl ?_
 refine v5v rfl rfl a0i rfl w1w rfl rfl rfl rfl (by rfl) (p5p _ _ _) (by simp only [a3c, a1u, a2b, a2g, T3]; have := a7g id i; omega) ?_
 refine dv 2 ?_
 refine u2u rfl rfl rfl (dv 1 ?_)
 exact ⟨i + 1, ⟨by omega, by omega⟩, [_, _], (x5x 3 rfl (Cov.cons' (t := 5) rfl (by rw [x6x (by omega) (by omega)]; rfl) Cov.nil)), y2y, (HE.row rfl (by simp only [a9k]; rw [if_pos (by assumption)]) (HE.kill rfl HE.nil)), y1y, rfl⟩
end
section
theorem b2g (x : Int) : r0r Tryz.prog 308 [.pv (.int .i64 x)] (.pv (.bool (false))) := by
 refine pX Tryz.f308 [.pv (.bool (false))] 0 ?_
 refine dv 8 ?_
 refine x1x rfl ?_ rfl
 simp
theorem b7i (x y : Int) : r0r Tryz.prog 286 [.pv (.int .i64 x), .pv (.int .i64 y)] (.pv (.int .i64 (if x < y then -1 else if y < x then 1 else 0))) := by
 refine pX Tryz.f286 [.pv (.int .i64 (if x < y then -1 else if y < x then 1 else 0))] 0 ?_
 refine dv 4 ?_
 refine x0x rfl rfl rfl (b2g ..) (dv 3 ?_)
 refine x0x rfl rfl rfl (b2g ..) (dc 16 (fun K K' => aI ?_ ?_))<;>intro h<;>try simp at h
 ·refine dv 3 ?_
  refine x1x rfl ?_ rfl
  simp only [List.cons.injEq, and_true, AV.pv.injEq, Value.int.injEq, true_and]
  split <;> (try split) <;> omega
 refine dc 6 (fun K K' => aI ?_ ?_)<;>intro h<;>try simp at h
 ·refine dv 3 ?_
  refine x1x rfl ?_ rfl
  simp only [List.cons.injEq, and_true, AV.pv.injEq, Value.int.injEq, true_and]
  split <;> (try split) <;> omega
 refine dv 4 ?_
 refine x1x rfl ?_ rfl
 simp only [List.cons.injEq, and_true, AV.pv.injEq, Value.int.injEq, true_and]
 split <;> (try split) <;> omega
theorem a4g (u v : List Int) (hab : u.length = v.length) (hn : u.length ≤ 1000000) (ty : Nat) : Meth Tryz.prog 232 2 [0, 1] [.bsl 0 0 0 u.length, .bsl 1 0 0 u.length] [(0, (0, .box ty (u.map pI))), (1, (0, .box ty (v.map pI)))] (.pv (.int .i64 (d8k u v))) [] := by
 refine u9u z9z (fn := Tryz.f232) (by kernel_rfl) (by kernel_rfl) rfl (O0 := [.pv (.int .i64 (d8k u v))]) 2 0 (a0w rfl) (by rfl) (.box (c7s _ _) (.box (c7s _ _) .nil)) .nil (by rfl) fun γ => ?_
 have hI : List.map (a3l idf γ) [(0, (0, .box ty (u.map pI))), (1, (0, .box ty (v.map pI)))] = [(0, ((γ 0), .box ty (u.map pI))), (1, ((γ 1), .box ty (v.map pI)))] := by simp only [List.map_cons, List.map_nil, a3l, inE, d9k]; rfl
 rw [hI]
 show Ex Tryz.prog _ _ [(0, .bsl 0 (γ 0) 0 u.length), (1, .bsl 1 (γ 1) 0 u.length)] [(0, ((γ 0), .box ty (u.map pI))), (1, ((γ 1), .box ty (v.map pI)))] _
 refine dv 5 fun K K' => ?_
 refine c7k rfl a0i rfl rfl (by intro s hs; cases hs) rfl ?_
 refine dv 2 ?_
 refine x4x (ι := Nat) (fun i γ1 => [(11, pI (i : Int))]) (fun i γ1 => []) (fun i => i ≤ u.length ∧ d8k u v = d8k (u.drop i) (v.drop i)) (fun i => u.length - i) (a0f [0, 1, 9, 10] rfl) (a2k [0, 1] rfl) 0 ⟨by omega, rfl⟩ [] y2y y1y rfl fun i γ1 hi => ?_
 obtain ⟨h1, h2⟩ := hi
 refine dc 3 (fun K K' => aS ?_ ?_)<;>intro h<;>try simp at h
 ·refine dv 4 fun K K' => ?_
  refine c7k rfl a0i rfl rfl (by intro s hs; cases hs) rfl ?_
  refine dv 1 ?_
  refine c7k rfl a0i rfl rfl (by intro s hs; cases hs) rfl ?_
  refine c3g rfl rfl rfl (y6y rfl (fun hc9 => ?_) (fun hc9 => ?_))
  ·simp at hc9
  try simp at hc9
  refine a6v (hkL (by assumption) ?_)
  refine exR (v3v rfl (a9d ?_))
  exact ⟨.inr rfl, [γ 0, γ 1], rfl, congrArg (fun z => some [AV.pv (.int .i64 z)]) (by rw [h2, List.drop_of_length_le (by omega), List.drop_of_length_le (by omega)]; rfl), HE.cast hI (HE.same rfl (HE.same rfl HE.nil))⟩
 obtain ⟨a, ha1⟩ := gE u i
 obtain ⟨b, hb1⟩ := gE v i
 refine dv 5 fun K K' => ?_
 refine d5q z9z rfl rfl a0i rfl w1w rfl (by omega) (u6u rfl w1w rfl (d1n rfl ha1) ?_)
 refine dv 6 fun K K' => ?_
 refine c7k rfl a0i rfl rfl (by intro s hs; cases hs) rfl ?_
 refine dc 1 (aI ?_ ?_)<;>intro h<;>try simp at h
 ·omega
 refine dv 4 ?_
 refine d5q z9z rfl rfl a0i rfl w1w rfl (by omega) (u6u rfl w1w rfl (d1n rfl hb1) ?_)
 refine dv 4 ?_
 refine x0x rfl rfl rfl (b7i ..) (dc 4 (aI ?_ ?_))<;>intro hc7<;>try simp at hc7
 ·have hz := hc7
  refine dv 4 ?_
  exact ⟨[γ 0, γ 1], rfl, congrArg (fun z => some [AV.pv (.int .i64 z)]) (by rw [h2, c8d ha1 hb1]; exact (e6m hz).symm), HE.cast hI (HE.same rfl (HE.same rfl HE.nil))⟩
 have hz := hc7
 refine dv 2 ?_
 refine u2u rfl rfl rfl (dv 1 ?_)
 exact ⟨i + 1, ⟨⟨by omega, by rw [h2, c8d ha1 hb1, e6n hz]⟩, by omega⟩, [], (Cov.cons' (t := 11) rfl (by rw [x6x (by omega) (by omega)]; rfl) Cov.nil), y2y, y1y, y1y, rfl⟩
theorem b2h (e : Ev) : r0r Tryz.prog 128 [.agg (y3y e)] (.agg (y3y e)) := by
 refine pX Tryz.f128 [.agg (y3y e)] 2 ?_
 refine dv 1 ?_
 refine x9x (id := 0) rfl rfl rfl (x3x (id := 1) p6p c2y rfl (dv 15 ?_))
 refine b4g z9z p6p rfl w1w c2y rfl (by simp only [pI, w1w, b6v, List.range, List.range.loop, List.map_cons, List.map_nil, b6s, s9s, AV.okc, AV.one, Value.oneCell', T3, T4, List.getElem?_cons_zero, List.getElem?_cons_succ, List.take_succ_cons, List.take_zero, List.drop_succ_cons, List.drop_zero, d2l, d2m, a2b, a2g, if_true, and_self, Nat.reduceAdd, Nat.reduceMul, Nat.reduceLeDiff]; rfl) ?_
 refine dv 2 ?_
 exact b9v rfl rfl rfl rfl
theorem b2i (e : Ev) : r0r Tryz.prog 277 [.agg (y3y e)] (.agg (y3y e)) := by
 refine pX Tryz.f277 [.agg (y3y e)] 2 ?_
 refine dv 1 ?_
 refine x9x (id := 0) rfl rfl rfl (x3x (id := 1) y9y a6x rfl (dv 1 ?_))
 refine b4h z9z (j := 0) rfl rfl p6p rfl w1w (by decide) rfl ?_
 refine dv 1 ?_
 refine b4h z9z (j := 1) rfl rfl p6p rfl w1w (by decide) rfl ?_
 refine dv 1 ?_
 refine b4h z9z (j := 2) rfl rfl p6p rfl w1w (by decide) rfl ?_
 refine dv 1 ?_
 refine b4h z9z (j := 3) rfl rfl p6p rfl w1w (by decide) rfl ?_
 refine dv 1 ?_
 refine b4h z9z (j := 4) rfl rfl p6p rfl w1w (by decide) rfl ?_
 refine dv 1 ?_
 refine b4h z9z (j := 5) rfl rfl p6p rfl w1w (by decide) rfl ?_
 refine dv 1 ?_
 refine b4h z9z (j := 6) rfl rfl p6p rfl w1w (by decide) rfl ?_
 refine dv 1 ?_
 refine rlB y9y a6x ?_
 refine dv 2 ?_
 exact b9v rfl rfl rfl rfl
theorem a5n (a b : Ev) : r0r Tryz.prog 127 [.agg (y3y a), .agg (y3y b)] (.pv (.bool (a1i a b))) := by
 refine pX Tryz.f127 [.pv (.bool (a1i a b))] 2 ?_
 refine dv 1 ?_
 refine x9x (id := 0) rfl rfl rfl (x9x (id := 1) rfl rfl rfl (dv 2 ?_))
 refine d1m z9z rfl p6p rfl w1w rfl (d1m z9z rfl p6p rfl w1w rfl ?_)
 refine rlM [0, 1] [_, _] (a4g (evN a) (evN b) rfl (a0w rfl) 153) rfl rfl rfl ?_
 refine dv 3 ?_
 refine x1x rfl ?_ rfl
 simp only [a1i, ← c4v (evN a) (evN b) rfl]
theorem b0w (a b : Ev) : r0r Tryz.prog 37 [.agg (y3y a), .agg (y3y b)] (.pv (.bool (a1i a b))) := by
 refine pX Tryz.f37 [.pv (.bool (a1i a b))] 2 ?_
 refine dv 1 ?_
 refine x9x (id := 0) rfl rfl rfl (x9x (id := 1) rfl rfl rfl (dv 3 ?_))
 refine x0x rfl rfl rfl (b2h ..) (dv 1 ?_)
 refine x0x rfl rfl rfl (b2h ..) (x0x rfl rfl rfl (a5n ..) (dv 2 ?_))
 exact x1x rfl rfl rfl
end
section
theorem a8f (v : Int) : r0r Tryz.prog 281 [.pv (.int .i64 v)] (.pv (.bool (decide (0 ≤ v ∧ v ≤ 999)))) := by
 refine pX Tryz.f281 [.pv (.bool (decide (0 ≤ v ∧ v ≤ 999)))] 0 ?_
 refine dv 4 ?_
 refine x0x rfl rfl rfl (y7y ..) (dv 2 ?_)
 exact x1x rfl rfl rfl
theorem a8g (v : Int) : r0r Tryz.prog 223 [.pv (.int .i64 v)] (.pv (.bool (decide (0 ≤ v ∧ v ≤ 999)))) := by
 refine pX Tryz.f223 [.pv (.bool (decide (0 ≤ v ∧ v ≤ 999)))] 0 ?_
 refine dv 4 ?_
 refine x0x rfl rfl rfl (z1z ..) (dv 2 ?_)
 exact x1x rfl rfl rfl
theorem c6e (v : Int) : r0r Tryz.prog 304 [.pv (.int .i64 v)] (.pv (.bool (decide (0 ≤ v ∧ v ≤ 3)))) := by
 refine pX Tryz.f304 [.pv (.bool (decide (0 ≤ v ∧ v ≤ 3)))] 0 ?_
 refine dv 4 ?_
 refine x0x rfl rfl rfl (y7y ..) (dv 2 ?_)
 exact x1x rfl rfl rfl
theorem b3o (s : St) : r0r Tryz.prog 218 [.agg (p0p s)] (.pv (.bool (decide (c3k s)))) := by
 refine pX Tryz.f218 [.pv (.bool (decide (c3k s)))] 1 ?_
 refine dv 1 ?_
 refine x9x (id := 0) rfl rfl rfl (dv 4 ?_)
 refine x0x rfl rfl rfl (a8f ..) (dc 1 (aS ?_ ?_))<;>intro h<;>try simp at h
 ·refine dv 10 ?_
  refine x1x rfl ?_ rfl
  exact kF (by unfold c3k; omega)
 refine dv 2 ?_
 refine x0x rfl rfl rfl (a8f ..) (dc 2 (aS ?_ ?_))<;>intro h<;>try simp at h
 ·refine dv 5 ?_
  refine x1x rfl ?_ rfl
  exact kF (by unfold c3k; omega)
 refine dv 2 ?_
 refine x0x rfl rfl rfl (y7y ..) (dv 3 ?_)
 refine x1x rfl ?_ rfl
 exact congrArg (fun b : Bool => [AV.pv (.bool b)]) (decide_eq_decide.2 (by unfold c3k; omega))
theorem b0x (s : St) : r0r Tryz.prog 118 [.agg (p0p s)] (.pv (.bool (decide (c3k s)))) := by
 refine pX Tryz.f118 [.pv (.bool (decide (c3k s)))] 1 ?_
 refine dv 1 ?_
 refine x9x (id := 0) rfl rfl rfl (dv 4 ?_)
 refine x0x rfl rfl rfl (a8g ..) (dc 1 (aS ?_ ?_))<;>intro h<;>try simp at h
 ·refine dv 10 ?_
  refine x1x rfl ?_ rfl
  exact kF (by unfold c3k; omega)
 refine dv 2 ?_
 refine x0x rfl rfl rfl (a8g ..) (dc 2 (aS ?_ ?_))<;>intro h<;>try simp at h
 ·refine dv 5 ?_
  refine x1x rfl ?_ rfl
  exact kF (by unfold c3k; omega)
 refine dv 2 ?_
 refine x0x rfl rfl rfl (z1z ..) (dv 3 ?_)
 refine x1x rfl ?_ rfl
 exact congrArg (fun b : Bool => [AV.pv (.bool b)]) (decide_eq_decide.2 (by unfold c3k; omega))
theorem b3p (e : Ev) : r0r Tryz.prog 282 [.agg (y3y e)] (.pv (.bool (decide (b8v e)))) := by
 refine pX Tryz.f282 [.pv (.bool (decide (b8v e)))] 1 ?_
 refine dv 1 ?_
 refine x9x (id := 0) rfl rfl rfl (dv 4 ?_)
 refine x0x rfl rfl rfl (y7y ..) (dc 1 (aS ?_ ?_))<;>intro h<;>try simp at h
 ·refine dv 30 ?_
  refine x1x rfl ?_ rfl
  exact kF (by unfold b8v; omega)
 refine dv 2 ?_
 refine x0x rfl rfl rfl (a6l ..) (dc 2 (aS ?_ ?_))<;>intro h<;>try simp at h
 ·refine dv 25 ?_
  refine x1x rfl ?_ rfl
  exact kF (by unfold b8v; omega)
 refine dv 2 ?_
 refine x0x rfl rfl rfl (y7y ..) (dc 2 (aS ?_ ?_))<;>intro h<;>try simp at h
 ·refine dv 20 ?_
  refine x1x rfl ?_ rfl
  exact kF (by unfold b8v; omega)
 refine dv 2 ?_
 refine x0x rfl rfl rfl (y7y ..) (dc 2 (aS ?_ ?_))<;>intro h<;>try simp at h
 ·refine dv 15 ?_
  refine x1x rfl ?_ rfl
  exact kF (by unfold b8v; omega)
 refine dv 2 ?_
 refine x0x rfl rfl rfl (y7y ..) (dc 2 (aS ?_ ?_))<;>intro h<;>try simp at h
 ·refine dv 10 ?_
  refine x1x rfl ?_ rfl
  exact kF (by unfold b8v; omega)
 refine dv 2 ?_
 refine x0x rfl rfl rfl (c6e ..) (dc 2 (aS ?_ ?_))<;>intro h<;>try simp at h
 ·refine dv 5 ?_
  refine x1x rfl ?_ rfl
  exact kF (by unfold b8v; omega)
 refine dv 2 ?_
 refine x0x rfl rfl rfl (a8f ..) (dv 3 ?_)
 refine x1x rfl ?_ rfl
 exact congrArg (fun b : Bool => [AV.pv (.bool b)]) (decide_eq_decide.2 (by unfold b8v; omega))
theorem b0y (e : Ev) : r0r Tryz.prog 224 [.agg (y3y e)] (.pv (.bool (decide (b8v e)))) := by
 refine pX Tryz.f224 [.pv (.bool (decide (b8v e)))] 1 ?_
 refine dv 1 ?_
 refine x9x (id := 0) rfl rfl rfl (dv 4 ?_)
 refine x0x rfl rfl rfl (z1z ..) (dc 1 (aS ?_ ?_))<;>intro h<;>try simp at h
 ·refine dv 30 ?_
  refine x1x rfl ?_ rfl
  exact kF (by unfold b8v; omega)
 refine dv 2 ?_
 refine x0x rfl rfl rfl (a6m ..) (dc 2 (aS ?_ ?_))<;>intro h<;>try simp at h
 ·refine dv 25 ?_
  refine x1x rfl ?_ rfl
  exact kF (by unfold b8v; omega)
 refine dv 2 ?_
 refine x0x rfl rfl rfl (z1z ..) (dc 2 (aS ?_ ?_))<;>intro h<;>try simp at h
 ·refine dv 20 ?_
  refine x1x rfl ?_ rfl
  exact kF (by unfold b8v; omega)
 refine dv 2 ?_
 refine x0x rfl rfl rfl (z1z ..) (dc 2 (aS ?_ ?_))<;>intro h<;>try simp at h
 ·refine dv 15 ?_
  refine x1x rfl ?_ rfl
  exact kF (by unfold b8v; omega)
 refine dv 2 ?_
 refine x0x rfl rfl rfl (z1z ..) (dc 2 (aS ?_ ?_))<;>intro h<;>try simp at h
 ·refine dv 10 ?_
  refine x1x rfl ?_ rfl
  exact kF (by unfold b8v; omega)
 refine dv 2 ?_
 refine x0x rfl rfl rfl (z1z ..) (dc 2 (aS ?_ ?_))<;>intro h<;>try simp at h
 ·refine dv 5 ?_
  refine x1x rfl ?_ rfl
  exact kF (by unfold b8v; omega)
 refine dv 2 ?_
 refine x0x rfl rfl rfl (a8g ..) (dv 3 ?_)
 refine x1x rfl ?_ rfl
 exact congrArg (fun b : Bool => [AV.pv (.bool b)]) (decide_eq_decide.2 (by unfold b8v; omega))
theorem a6b (a b : Ev) : r0r Tryz.prog 121 [.agg (y3y a), .agg (y3y b)] (.pv (.bool (a1i a b))) := by
 refine pX Tryz.f121 [.pv (.bool (a1i a b))] 2 ?_
 refine dv 1 ?_
 refine x9x (id := 0) rfl rfl rfl (x9x (id := 1) rfl rfl rfl (dc 10 (fun K K' => aI ?_ ?_)))<;>intro h<;>try simp at h
 ·refine dv 8 ?_
  refine x1x rfl ?_ rfl
  rw [b0f]
  exact congrArg (fun b : Bool => [AV.pv (.bool b)]) (decide_eq_decide.2 (by unfold d6u; omega))
 refine dc 7 (aI ?_ ?_)<;>intro h<;>try simp at h
 ·refine dv 8 ?_
  refine x1x rfl ?_ rfl
  rw [b0f]
  exact congrArg (fun b : Bool => [AV.pv (.bool b)]) (decide_eq_decide.2 (by unfold d6u; omega))
 refine dc 7 (aI ?_ ?_)<;>intro h<;>try simp at h
 ·refine dv 8 ?_
  refine x1x rfl ?_ rfl
  rw [b0f]
  exact congrArg (fun b : Bool => [AV.pv (.bool b)]) (decide_eq_decide.2 (by unfold d6u; omega))
 refine dc 7 (aI ?_ ?_)<;>intro h<;>try simp at h
 ·refine dv 8 ?_
  refine x1x rfl ?_ rfl
  rw [b0f]
  exact congrArg (fun b : Bool => [AV.pv (.bool b)]) (decide_eq_decide.2 (by unfold d6u; omega))
 refine dc 7 (aI ?_ ?_)<;>intro h<;>try simp at h
 ·refine dv 8 ?_
  refine x1x rfl ?_ rfl
  rw [b0f]
  exact congrArg (fun b : Bool => [AV.pv (.bool b)]) (decide_eq_decide.2 (by unfold d6u; omega))
 refine dc 7 (aI ?_ ?_)<;>intro h<;>try simp at h
 ·refine dv 8 ?_
  refine x1x rfl ?_ rfl
  rw [b0f]
  exact congrArg (fun b : Bool => [AV.pv (.bool b)]) (decide_eq_decide.2 (by unfold d6u; omega))
 refine dv 9 ?_
 refine x1x rfl ?_ rfl
 rw [b0f]
 exact congrArg (fun b : Bool => [AV.pv (.bool b)]) (decide_eq_decide.2 (by unfold d6u; omega))
theorem b3q (a b : Ou) : r0r Tryz.prog 217 [.agg (v8v a), .agg (v8v b)] (.pv (.bool (a4e a b))) := by
 refine pX Tryz.f217 [.pv (.bool (a4e a b))] 2 ?_
 refine dv 1 ?_
 refine x9x (id := 0) rfl rfl rfl (x9x (id := 1) rfl rfl rfl (dc 10 (fun K K' => aI ?_ ?_)))<;>intro h<;>try simp at h
 ·refine dv 8 ?_
  refine x1x rfl ?_ rfl
  rw [b2x]
  exact congrArg (fun b : Bool => [AV.pv (.bool b)]) (decide_eq_decide.2 (by unfold d8l; omega))
 refine dc 7 (aI ?_ ?_)<;>intro h<;>try simp at h
 ·refine dv 8 ?_
  refine x1x rfl ?_ rfl
  rw [b2x]
  exact congrArg (fun b : Bool => [AV.pv (.bool b)]) (decide_eq_decide.2 (by unfold d8l; omega))
 refine dc 7 (aI ?_ ?_)<;>intro h<;>try simp at h
 ·refine dv 8 ?_
  refine x1x rfl ?_ rfl
  rw [b2x]
  exact congrArg (fun b : Bool => [AV.pv (.bool b)]) (decide_eq_decide.2 (by unfold d8l; omega))
 refine dc 7 (aI ?_ ?_)<;>intro h<;>try simp at h
 ·refine dv 8 ?_
  refine x1x rfl ?_ rfl
  rw [b2x]
  exact congrArg (fun b : Bool => [AV.pv (.bool b)]) (decide_eq_decide.2 (by unfold d8l; omega))
 refine dv 9 ?_
 refine x1x rfl ?_ rfl
 rw [b2x]
 exact congrArg (fun b : Bool => [AV.pv (.bool b)]) (decide_eq_decide.2 (by unfold d8l; omega))
theorem a5o (a b : Ou) : r0r Tryz.prog 283 [.agg (v8v a), .agg (v8v b)] (.pv (.bool (a4e a b))) := by
 refine pX Tryz.f283 [.pv (.bool (a4e a b))] 4 ?_
 refine dv 1 ?_
 refine x9x (id := 0) rfl rfl rfl (x9x (id := 1) rfl rfl rfl (dv 12 ?_))
 refine b4g z9z c2x rfl w1w d1i rfl (by simp only [pI, w1w, b6v, List.range, List.range.loop, List.map_cons, List.map_nil, b6s, s9s, AV.okc, AV.one, Value.oneCell', T3, T4, List.getElem?_cons_zero, List.getElem?_cons_succ, List.take_succ_cons, List.take_zero, List.drop_succ_cons, List.drop_zero, d2l, d2m, a2b, a2g, if_true, and_self, Nat.reduceAdd, Nat.reduceMul, Nat.reduceLeDiff]; rfl) ?_
 refine x3x (id := 2) c2x d1i rfl (dv 12 ?_)
 refine b4g z9z c2x rfl w1w d1i rfl (by simp only [pI, w1w, b6v, List.range, List.range.loop, List.map_cons, List.map_nil, b6s, s9s, AV.okc, AV.one, Value.oneCell', T3, T4, List.getElem?_cons_zero, List.getElem?_cons_succ, List.take_succ_cons, List.take_zero, List.drop_succ_cons, List.drop_zero, d2l, d2m, a2b, a2g, if_true, and_self, Nat.reduceAdd, Nat.reduceMul, Nat.reduceLeDiff]; rfl) ?_
 refine x3x (id := 3) c2x d1i rfl (dv 2 ?_)
 refine d1m z9z rfl c2x rfl w1w rfl (d1m z9z rfl c2x rfl w1w rfl ?_)
 refine rlM [2, 3] [_, _] (a4g (ouL a) (ouL b) rfl (a0w rfl) 329) rfl rfl rfl ?_
 refine dv 3 ?_
 refine x1x rfl ?_ rfl
 simp only [a4e, ← c4v (ouL a) (ouL b) rfl]
theorem a2q (c : Bool) (l : List Ev) (most : Int) : r0r Tryz.prog 234 [w7w c l, .pv (.int .i64 most)] (.pv (.bool (a6t okE a1i l most))) := by
 refine pX Tryz.f234 [.pv (.bool (a6t okE a1i l most))] 1 ?_
 refine y8y 0 rfl fun hlen => ?_
 refine dc 8 (fun K K' => aI ?_ ?_)<;>intro h<;>try simp at h
 ·refine dv 3 ?_
  refine x1x rfl ?_ rfl
  exact congrArg (fun b : Bool => [AV.pv (.bool b)]) (b1z (by omega)).symm
 refine dv 7 fun K K' => ?_
 refine x4x (ι := Nat) (fun i γ1 => [(13, pI (i : Int))]) (fun i γ1 => [(0, ((γ1 0), .dead))]) (fun i => i ≤ l.length ∧ a6t okE a1i l most = a8y okE a1i (b1i l i) (l.drop i)) (fun i => l.length - i) (a0f [0, 11, 12] rfl) HE.nil 0 ⟨by omega, c0h (by omega)⟩ [_] y2y y1y rfl fun i γ1 hi => ?_
 obtain ⟨h1, h2⟩ := hi
 refine dc 3 (fun K K' => aS ?_ ?_)<;>intro h<;>try simp at h
 ·obtain rfl : i = l.length := by omega
  rw [List.drop_length] at h2
  refine dv 4 ?_
  refine x1x rfl ?_ rfl
  exact congrArg (fun b : Bool => [AV.pv (.bool b)]) h2.symm
 obtain ⟨p, hp⟩ := gE l i
 rw [v1v hp] at h2
 refine dv 7 fun K K' => ?_
 refine x3x (id := 0) y9y a6x rfl (dv 4 ?_)
 refine x0x rfl rfl rfl (b3p ..) (dc 2 (aS ?_ ?_))<;>intro hg7<;>try simp at hg7
 ·have hbad : okE p = false := by simpa [okE] using hg7
  refine dv 16 ?_
  refine x1x rfl ?_ rfl
  exact congrArg (fun b : Bool => [AV.pv (.bool b)]) (h2.trans (a5m _ _ hbad)).symm
 have hok : okE p = true := by simpa [okE] using hg7
 refine dc 3 (aS ?_ ?_)<;>intro h<;>try simp at h
 ·have hi0 : i = 0 := by omega
  have hlast : b1i l i = none := by rw [hi0]; rfl
  rw [hlast] at h2
  refine dv 12 ?_
  refine x2x (b := 1) rfl rfl (by omega) (dv 1 ?_)
  exact ⟨i + 1, ⟨⟨by omega, by rw [h2]; show _ = a8y okE a1i l[i]? _; rw [hp]; exact a6s _ _ hok⟩, by omega⟩, [_], y2y, y2y, y1y, y1y, rfl⟩
 have hi0 : 0 < i := by omega
 obtain ⟨b, hb⟩ := gE l (i - 1)
 have hlast : b1i l i = some b := by obtain ⟨j, rfl⟩ : ∃ j, i = j + 1 := ⟨i - 1, by omega⟩; exact hb
 rw [hlast] at h2
 refine dv 2 ?_
 refine a0c (b := 1) rfl rfl (by omega) (by omega) (dv 3 ?_)
 refine x0x rfl rfl rfl (b0w ..) (dc 3 (aS ?_ ?_))<;>intro hc9<;>try simp at hc9
 ·try have hlt := hc9
  refine dv 2 ?_
  refine x2x (b := 1) rfl rfl (by omega) (dv 1 ?_)
  exact ⟨i + 1, ⟨⟨by omega, by rw [h2]; show _ = a8y okE a1i l[i]? _; rw [hp]; exact a9l _ _ hok hlt⟩, by omega⟩, [_], y2y, y2y, y1y, y1y, rfl⟩
 try have hlt := hc9
 refine dv 3 ?_
 refine x1x rfl ?_ rfl
 exact congrArg (fun b : Bool => [AV.pv (.bool b)]) (h2.trans (b6z _ _ hlt)).symm
theorem a2r (c : Bool) (l : List Ev) (most : Int) : r0r Tryz.prog 144 [w7w c l, .pv (.int .i64 most)] (.pv (.bool (a6t okE a1i l most))) := by
 refine pX Tryz.f144 [.pv (.bool (a6t okE a1i l most))] 0 ?_
 refine y8y 0 rfl fun hlen => ?_
 refine dc 8 (fun K K' => aI ?_ ?_)<;>intro h<;>try simp at h
 ·refine dv 3 ?_
  refine x1x rfl ?_ rfl
  exact congrArg (fun b : Bool => [AV.pv (.bool b)]) (b1z (by omega)).symm
 refine dv 5 fun K K' => ?_
 refine x4x (ι := Nat) (fun i γ1 => [(5, pI (i : Int))]) (fun i γ1 => []) (fun i => i ≤ l.length ∧ a6t okE a1i l most = a8y okE a1i (b1i l i) (l.drop i)) (fun i => l.length - i) (x5x 0 rfl Cov.nil) HE.nil 0 ⟨by omega, c0h (by omega)⟩ [] y2y y1y rfl fun i γ1 hi => ?_
 obtain ⟨h1, h2⟩ := hi
 refine dc 6 (fun K K' => aS ?_ ?_)<;>intro h<;>try simp at h
 ·obtain rfl : i = l.length := by omega
  rw [List.drop_length] at h2
  refine dv 4 ?_
  refine x1x rfl ?_ rfl
  exact congrArg (fun b : Bool => [AV.pv (.bool b)]) h2.symm
 obtain ⟨p, hp⟩ := gE l i
 rw [v1v hp] at h2
 refine dv 8 fun K K' => ?_
 refine x0x rfl rfl rfl (b0y ..) (dc 2 (aS ?_ ?_))<;>intro hg7<;>try simp at hg7
 ·have hbad : okE p = false := by simpa [okE] using hg7
  refine dv 19 ?_
  refine x1x rfl ?_ rfl
  exact congrArg (fun b : Bool => [AV.pv (.bool b)]) (h2.trans (a5m _ _ hbad)).symm
 have hok : okE p = true := by simpa [okE] using hg7
 refine dc 3 (aS ?_ ?_)<;>intro h<;>try simp at h
 ·have hi0 : i = 0 := by omega
  have hlast : b1i l i = none := by rw [hi0]; rfl
  rw [hlast] at h2
  refine dv 16 ?_
  refine x2x (b := 1) rfl rfl (by omega) (dv 1 ?_)
  exact ⟨i + 1, ⟨⟨by omega, by rw [h2]; show _ = a8y okE a1i l[i]? _; rw [hp]; exact a6s _ _ hok⟩, by omega⟩, [], y2y, y2y, y1y, y1y, rfl⟩
 have hi0 : 0 < i := by omega
 obtain ⟨b, hb⟩ := gE l (i - 1)
 have hlast : b1i l i = some b := by obtain ⟨j, rfl⟩ : ∃ j, i = j + 1 := ⟨i - 1, by omega⟩; exact hb
 rw [hlast] at h2
 refine dv 2 ?_
 refine a0c (b := 1) rfl rfl (by omega) (by omega) (dv 6 ?_)
 refine x0x rfl rfl rfl (a6b ..) (dc 3 (aS ?_ ?_))<;>intro hc9<;>try simp at hc9
 ·try have hlt := hc9
  refine dv 3 ?_
  refine x2x (b := 1) rfl rfl (by omega) (dv 1 ?_)
  exact ⟨i + 1, ⟨⟨by omega, by rw [h2]; show _ = a8y okE a1i l[i]? _; rw [hp]; exact a9l _ _ hok hlt⟩, by omega⟩, [], y2y, y2y, y1y, y1y, rfl⟩
 try have hlt := hc9
 refine dv 3 ?_
 refine x1x rfl ?_ rfl
 exact congrArg (fun b : Bool => [AV.pv (.bool b)]) (h2.trans (b6z _ _ hlt)).symm
theorem b0o (c : Bool) (l : List Ou) (most : Int) : r0r Tryz.prog 235 [r9r c l, .pv (.int .i64 most)] (.pv (.bool (a6t okO a4e l most))) := by
 refine pX Tryz.f235 [.pv (.bool (a6t okO a4e l most))] 1 ?_
 refine y8y 0 rfl fun hlen => ?_
 refine dc 8 (fun K K' => aI ?_ ?_)<;>intro h<;>try simp at h
 ·refine dv 3 ?_
  refine x1x rfl ?_ rfl
  exact congrArg (fun b : Bool => [AV.pv (.bool b)]) (b1z (by omega)).symm
 refine dv 7 fun K K' => ?_
 refine x4x (ι := Nat) (fun i γ1 => [(14, pI (i : Int))]) (fun i γ1 => [(0, ((γ1 0), .dead))]) (fun i => i ≤ l.length ∧ a6t okO a4e l most = a8y okO a4e (b1i l i) (l.drop i)) (fun i => l.length - i) (a0f [0, 12, 13] rfl) HE.nil 0 ⟨by omega, c0h (by omega)⟩ [_] y2y y1y rfl fun i γ1 hi => ?_
 obtain ⟨h1, h2⟩ := hi
 refine dc 3 (fun K K' => aS ?_ ?_)<;>intro h<;>try simp at h
 ·obtain rfl : i = l.length := by omega
  rw [List.drop_length] at h2
  refine dv 4 ?_
  refine x1x rfl ?_ rfl
  exact congrArg (fun b : Bool => [AV.pv (.bool b)]) h2.symm
 obtain ⟨p, hp⟩ := gE l i
 rw [v1v hp] at h2
 refine dv 7 fun K K' => ?_
 refine x3x (id := 0) u1u b5g rfl (dv 2 ?_)
 refine a7b (ι := Unit) (fun _i γ2 => [(7, .pv (.bool (okO p)))]) (fun _i γ2 => []) (fun _i => True) (a0f [0, 5, 6, 12, 13, 14] rfl) (u4u 0 rfl HE.nil) ?_ fun _i γ2 hi => ?_
 ·refine dv 3 ?_
  refine x0x rfl rfl rfl (y7y ..) (dc 1 (aS ?_ ?_))<;>intro h<;>try simp at h
  ·refine dv 19 ?_
   exact ⟨(), trivial, [], (Cov.cons' (t := 7) rfl (by exact congrArg (fun b : Bool => AV.pv (.bool b)) (decide_eq_false (by unfold d1v; omega)).symm) Cov.nil), y2y, y1y, y1y, rfl⟩
  refine dv 2 ?_
  refine x0x rfl rfl rfl (a6l ..) (dc 2 (aS ?_ ?_))<;>intro h<;>try simp at h
  ·refine dv 14 ?_
   exact ⟨(), trivial, [], (Cov.cons' (t := 7) rfl (by exact congrArg (fun b : Bool => AV.pv (.bool b)) (decide_eq_false (by unfold d1v; omega)).symm) Cov.nil), y2y, y1y, y1y, rfl⟩
  refine dv 2 ?_
  refine x0x rfl rfl rfl (y7y ..) (dc 2 (aS ?_ ?_))<;>intro h<;>try simp at h
  ·refine dv 9 ?_
   exact ⟨(), trivial, [], (Cov.cons' (t := 7) rfl (by exact congrArg (fun b : Bool => AV.pv (.bool b)) (decide_eq_false (by unfold d1v; omega)).symm) Cov.nil), y2y, y1y, y1y, rfl⟩
  refine dv 2 ?_
  refine x0x rfl rfl rfl (y7y ..) (dc 2 (aS ?_ ?_))<;>intro h<;>try simp at h
  ·refine dv 4 ?_
   exact ⟨(), trivial, [], (Cov.cons' (t := 7) rfl (by exact congrArg (fun b : Bool => AV.pv (.bool b)) (decide_eq_false (by unfold d1v; omega)).symm) Cov.nil), y2y, y1y, y1y, rfl⟩
  refine dv 2 ?_
  refine x0x rfl rfl rfl (a8f ..) (dv 2 ?_)
  exact ⟨(), trivial, [], (Cov.cons' (t := 7) rfl (by exact congrArg (fun b : Bool => AV.pv (.bool b)) (decide_eq_decide.2 (by unfold d1v; omega))) Cov.nil), y2y, y1y, y1y, rfl⟩
 ·try dsimp only [d2l, d2m]
  refine dc 4 (aS ?_ ?_)<;>intro hg11<;>try simp at hg11
  ·have hbad : okO p = false := by simpa [okO] using hg11
   refine dv 16 ?_
   refine x1x rfl ?_ rfl
   exact congrArg (fun b : Bool => [AV.pv (.bool b)]) (h2.trans (a5m _ _ hbad)).symm
  have hok : okO p = true := by simpa [okO] using hg11
  refine dc 3 (aS ?_ ?_)<;>intro h<;>try simp at h
  ·have hi0 : i = 0 := by omega
   have hlast : b1i l i = none := by rw [hi0]; rfl
   rw [hlast] at h2
   refine dv 12 ?_
   refine x2x (b := 1) rfl rfl (by omega) (dv 1 ?_)
   exact ⟨i + 1, ⟨⟨by omega, by rw [h2]; show _ = a8y okO a4e l[i]? _; rw [hp]; exact a6s _ _ hok⟩, by omega⟩, [_], y2y, y2y, y1y, y1y, rfl⟩
  have hi0 : 0 < i := by omega
  obtain ⟨b, hb⟩ := gE l (i - 1)
  have hlast : b1i l i = some b := by obtain ⟨j, rfl⟩ : ∃ j, i = j + 1 := ⟨i - 1, by omega⟩; exact hb
  rw [hlast] at h2
  refine dv 2 ?_
  refine a0c (b := 1) rfl rfl (by omega) (by omega) (dv 3 ?_)
  refine x0x rfl rfl rfl (a5o ..) (dc 3 (aS ?_ ?_))<;>intro hc13<;>try simp at hc13
  ·try have hlt := hc13
   refine dv 2 ?_
   refine x2x (b := 1) rfl rfl (by omega) (dv 1 ?_)
   exact ⟨i + 1, ⟨⟨by omega, by rw [h2]; show _ = a8y okO a4e l[i]? _; rw [hp]; exact a9l _ _ hok hlt⟩, by omega⟩, [_], y2y, y2y, y1y, y1y, rfl⟩
  try have hlt := hc13
  refine dv 3 ?_
  refine x1x rfl ?_ rfl
  exact congrArg (fun b : Bool => [AV.pv (.bool b)]) (h2.trans (b6z _ _ hlt)).symm
theorem b0p (c : Bool) (l : List Ou) (most : Int) : r0r Tryz.prog 145 [r9r c l, .pv (.int .i64 most)] (.pv (.bool (a6t okO a4e l most))) := by
 refine pX Tryz.f145 [.pv (.bool (a6t okO a4e l most))] 1 ?_
 refine y8y 0 rfl fun hlen => ?_
 refine dc 8 (fun K K' => aI ?_ ?_)<;>intro h<;>try simp at h
 ·refine dv 3 ?_
  refine x1x rfl ?_ rfl
  exact congrArg (fun b : Bool => [AV.pv (.bool b)]) (b1z (by omega)).symm
 refine dv 5 fun K K' => ?_
 refine x4x (ι := Nat) (fun i γ1 => [(5, pI (i : Int))]) (fun i γ1 => [(0, ((γ1 0), .dead))]) (fun i => i ≤ l.length ∧ a6t okO a4e l most = a8y okO a4e (b1i l i) (l.drop i)) (fun i => l.length - i) (x5x 0 rfl Cov.nil) HE.nil 0 ⟨by omega, c0h (by omega)⟩ [_] y2y y1y rfl fun i γ1 hi => ?_
 obtain ⟨h1, h2⟩ := hi
 refine dc 6 (fun K K' => aS ?_ ?_)<;>intro h<;>try simp at h
 ·obtain rfl : i = l.length := by omega
  rw [List.drop_length] at h2
  refine dv 4 ?_
  refine x1x rfl ?_ rfl
  exact congrArg (fun b : Bool => [AV.pv (.bool b)]) h2.symm
 obtain ⟨p, hp⟩ := gE l i
 rw [v1v hp] at h2
 refine dv 8 fun K K' => ?_
 refine x3x (id := 0) u1u b5g rfl (dv 4 ?_)
 refine x0x rfl rfl rfl (z1z ..) (dc 2 (aS ?_ ?_))<;>intro h<;>try simp at h
 ·refine dv 40 ?_
  refine x1x rfl ?_ rfl
  exact congrArg (fun b : Bool => [AV.pv (.bool b)]) (h2.trans (a5m _ _ (decide_eq_false (by unfold d1v; omega)))).symm
 refine dv 2 ?_
 refine x0x rfl rfl rfl (a6m ..) (dc 3 (aS ?_ ?_))<;>intro h<;>try simp at h
 ·refine dv 34 ?_
  refine x1x rfl ?_ rfl
  exact congrArg (fun b : Bool => [AV.pv (.bool b)]) (h2.trans (a5m _ _ (decide_eq_false (by unfold d1v; omega)))).symm
 refine dv 2 ?_
 refine x0x rfl rfl rfl (z1z ..) (dc 3 (aS ?_ ?_))<;>intro h<;>try simp at h
 ·refine dv 28 ?_
  refine x1x rfl ?_ rfl
  exact congrArg (fun b : Bool => [AV.pv (.bool b)]) (h2.trans (a5m _ _ (decide_eq_false (by unfold d1v; omega)))).symm
 refine dv 2 ?_
 refine x0x rfl rfl rfl (z1z ..) (dc 3 (aS ?_ ?_))<;>intro h<;>try simp at h
 ·refine dv 22 ?_
  refine x1x rfl ?_ rfl
  exact congrArg (fun b : Bool => [AV.pv (.bool b)]) (h2.trans (a5m _ _ (decide_eq_false (by unfold d1v; omega)))).symm
 refine dv 2 ?_
 refine x0x rfl rfl rfl (a8g ..) (dc 3 (aS ?_ ?_))<;>intro h<;>try simp at h
 ·refine dv 16 ?_
  refine x1x rfl ?_ rfl
  exact congrArg (fun b : Bool => [AV.pv (.bool b)]) (h2.trans (a5m _ _ (decide_eq_false (by unfold d1v; omega)))).symm
 have hok : okO p = true := decide_eq_true (by unfold d1v; omega)
 refine dc 3 (aS ?_ ?_)<;>intro h<;>try simp at h
 ·have hi0 : i = 0 := by omega
  have hlast : b1i l i = none := by rw [hi0]; rfl
  rw [hlast] at h2
  refine dv 13 ?_
  refine x2x (b := 1) rfl rfl (by omega) (dv 1 ?_)
  exact ⟨i + 1, ⟨⟨by omega, by rw [h2]; show _ = a8y okO a4e l[i]? _; rw [hp]; exact a6s _ _ hok⟩, by omega⟩, [_], y2y, y2y, y1y, y1y, rfl⟩
 have hi0 : 0 < i := by omega
 obtain ⟨b, hb⟩ := gE l (i - 1)
 have hlast : b1i l i = some b := by obtain ⟨j, rfl⟩ : ∃ j, i = j + 1 := ⟨i - 1, by omega⟩; exact hb
 rw [hlast] at h2
 refine dv 2 ?_
 refine a0c (b := 1) rfl rfl (by omega) (by omega) (dv 3 ?_)
 refine x0x rfl rfl rfl (b3q ..) (dc 3 (aS ?_ ?_))<;>intro hc13<;>try simp at hc13
 ·try have hlt := hc13
  refine dv 3 ?_
  refine x2x (b := 1) rfl rfl (by omega) (dv 1 ?_)
  exact ⟨i + 1, ⟨⟨by omega, by rw [h2]; show _ = a8y okO a4e l[i]? _; rw [hp]; exact a9l _ _ hok hlt⟩, by omega⟩, [_], y2y, y2y, y1y, y1y, rfl⟩
 try have hlt := hc13
 refine dv 3 ?_
 refine x1x rfl ?_ rfl
 exact congrArg (fun b : Bool => [AV.pv (.bool b)]) (h2.trans (b6z _ _ hlt)).symm
end
section
theorem b2j (c : Bool) (l : List Int) : r0r Tryz.prog 243 [a5d c l] (.pv (.bool (decide (b3d l)))) := by
 refine pX Tryz.f243 [.pv (.bool (decide (b3d l)))] 0 ?_
 refine y8y 0 rfl fun hlen => ?_
 refine dv 8 fun K K' => ?_
 refine x4x (ι := Nat) (fun i γ1 => [(7, pI (i : Int))]) (fun i γ1 => []) (fun i => i ≤ l.length ∧ c8f l (fun _ v => 0 ≤ v ∧ v ≤ 9999) i) (fun i => l.length - i) (a0f [0, 5, 6] rfl) HE.nil 0 ⟨by omega, a0z⟩ [] y2y y1y rfl fun i γ1 hi => ?_
 obtain ⟨h1, h2⟩ := hi
 refine dc 3 (fun K K' => aI ?_ ?_)<;>intro j<;>try simp at j
 ·obtain ⟨v, hv⟩ := gE l i
  refine dv 9 fun K K' => ?_
  refine x0x rfl rfl rfl (y7y ..) (dc 1 (aS ?_ ?_))<;>intro j<;>try simp at j
  ·have hb : 0 ≤ v ∧ v ≤ 9999 := by omega
   refine dv 2 ?_
   refine u2u rfl rfl rfl (dv 1 ?_)
   exact ⟨i + 1, ⟨⟨by omega, a0e h2 hv hb⟩, by omega⟩, [], (Cov.cons' (t := 7) rfl (by rw [x6x (by omega) (by omega)]; rfl) Cov.nil), y2y, y1y, y1y, rfl⟩
  have hX : ¬ (0 ≤ v ∧ v ≤ 9999) := by omega
  refine dv 3 ?_
  refine x1x rfl ?_ rfl
  exact kF (fun h => hX (h.2 v (List.mem_of_getElem? hv)))
 have hall := a2z h2 (by omega)
 have hin : ∀ v ∈ l, 0 ≤ v ∧ v ≤ 9999 := fun v hv => by obtain ⟨i, hi⟩ := List.getElem?_of_mem hv; exact hall i v hi
 refine dc 6 (aS ?_ ?_)<;>intro j<;>try simp at j
 ·refine dv 5 ?_
  refine x1x rfl ?_ rfl
  repeat clear K' K
  exact kT ⟨.inl (by simp_all), hin⟩
 refine dv 6 ?_
 refine x1x rfl ?_ rfl
 exact congrArg (fun b : Bool => [AV.pv (.bool b)]) (Bool.eq_iff_iff.2 ⟨fun h => decide_eq_true ⟨.inr (by simp at h; omega), hin⟩, fun h => by rcases (of_decide_eq_true h).1 with q | q; exact absurd (List.length_eq_zero_iff.1 q) (by assumption); simp; omega⟩)
theorem c6f (c : Bool) (w : Wo) : r0r Tryz.prog 154 [.agg (a5z c w)] (.pv (.bool (decide (b2e w)))) := by
 refine pX Tryz.f154 [.pv (.bool (decide (b2e w)))] 1 ?_
 refine dv 1 ?_
 refine x9x (id := 0) rfl rfl rfl (dv 4 ?_)
 refine x0x rfl rfl rfl (y7y ..) (dc 1 (aS ?_ ?_))<;>intro j<;>try simp at j
 ·have hX : ¬ s5s w := by unfold s5s; omega
  refine dv 50 ?_
  refine x1x rfl ?_ rfl
  exact kF (fun h => hX h.1)
 refine dv 2 ?_
 refine x0x rfl rfl rfl (a6n ..) (dc 2 (aS ?_ ?_))<;>intro j<;>try simp at j
 ·have hX : ¬ s5s w := by unfold s5s; omega
  refine dv 45 ?_
  refine x1x rfl ?_ rfl
  exact kF (fun h => hX h.1)
 refine dv 2 ?_
 refine x0x rfl rfl rfl (a6n ..) (dc 2 (aS ?_ ?_))<;>intro j<;>try simp at j
 ·have hX : ¬ s5s w := by unfold s5s; omega
  refine dv 40 ?_
  refine x1x rfl ?_ rfl
  exact kF (fun h => hX h.1)
 refine dv 2 ?_
 refine x0x rfl rfl rfl (y7y ..) (dc 2 (aS ?_ ?_))<;>intro j<;>try simp at j
 ·have hX : ¬ s5s w := by unfold s5s; omega
  refine dv 35 ?_
  refine x1x rfl ?_ rfl
  exact kF (fun h => hX h.1)
 refine dv 2 ?_
 refine x0x rfl rfl rfl (y7y ..) (dc 2 (aS ?_ ?_))<;>intro j<;>try simp at j
 ·have hX : ¬ s5s w := by unfold s5s; omega
  refine dv 30 ?_
  refine x1x rfl ?_ rfl
  exact kF (fun h => hX h.1)
 refine dv 2 ?_
 refine x0x rfl rfl rfl (y7y ..) (dc 2 (aS ?_ ?_))<;>intro j<;>try simp at j
 ·have hX : ¬ s5s w := by unfold s5s; omega
  refine dv 25 ?_
  refine x1x rfl ?_ rfl
  exact kF (fun h => hX h.1)
 refine dv 2 ?_
 refine x0x rfl rfl rfl (y7y ..) (dc 2 (aS ?_ ?_))<;>intro j<;>try simp at j
 ·have hX : ¬ s5s w := by unfold s5s; omega
  refine dv 20 ?_
  refine x1x rfl ?_ rfl
  exact kF (fun h => hX h.1)
 have hN : s5s w := by unfold s5s; omega
 refine dv 2 ?_
 refine x0x rfl rfl rfl (b2j ..) (dc 2 (aS ?_ ?_))<;>intro hg8<;>try simp at hg8
 ·have hX1 : ¬ b3d w.incs := hg8
  refine dv 15 ?_
  refine x1x rfl ?_ rfl
  exact kF (fun h => hX1 h.2.1)
 have hI : b3d w.incs := hg8
 refine dv 2 ?_
 refine x0x rfl rfl rfl (b2j ..) (dc 2 (aS ?_ ?_))<;>intro hg9<;>try simp at hg9
 ·have hX2 : ¬ b3d w.versions := hg9
  refine dv 10 ?_
  refine x1x rfl ?_ rfl
  exact kF (fun h => hX2 h.2.2.1)
 have hV : b3d w.versions := hg9
 refine dv 2 ?_
 refine x0x rfl rfl rfl (a2q ..) (dc 2 (aS ?_ ?_))<;>intro hg10<;>try simp at hg10
 ·have hX3 : ¬ a6t okE a1i w.events 100 = true := by simpa using hg10
  refine dv 5 ?_
  refine x1x rfl ?_ rfl
  exact kF (fun h => hX3 h.2.2.2.1)
 have hE : a6t okE a1i w.events 100 = true := hg10
 refine dv 2 ?_
 refine x0x rfl rfl rfl (b0o ..) (dv 3 ?_)
 refine x1x rfl ?_ rfl
 exact congrArg (fun b : Bool => [AV.pv (.bool b)]) (Bool.eq_iff_iff.2 ⟨fun h => decide_eq_true ⟨hN, hI, hV, hE, h⟩, fun h => (of_decide_eq_true h).2.2.2.2⟩)
end
section
def a5t (c : Bool) (vs : List Vi) : List (Value × AV) := vs.zipIdx.map fun p => (.int .i64 (p.2 : Int), .agg (a1f c p.1))
def b4q (n : Nat) : List Int := (List.range n).map fun (i : Nat) => (i : Int)
variable {c : Bool} {vs : List Vi} {i : Nat} {v : Vi}
theorem e4z (h : vs[i]? = some v) : (a5t c vs)[i]? = some (.int .i64 (i : Int), .agg (a1f c v)) := by
 rw [a5t, List.getElem?_map, List.getElem?_zipIdx, h]; simp
theorem a7k (c : Bool) (vs : List Vi) : (a5t c vs).map (·.1) = (b4q vs.length).map fun n => Value.int .i64 n := by
 apply List.ext_getElem?
 intro i
 simp only [a5t, b4q, List.getElem?_map, List.getElem?_zipIdx, List.getElem?_range]
 by_cases h : i < vs.length
 ·simp [h]
 ·rw [List.getElem?_eq_none (by omega : vs.length ≤ i)]; simp [h]
theorem c6g (h : i < n) : a5w (b4q n) (i : Int) = some i := by
 obtain ⟨j, hj⟩ := c7p (k := (i : Int)) (ks := b4q n) (List.mem_map.2 ⟨i, List.mem_range.2 h, rfl⟩)
 have := b4e hj
 simp only [b4q, List.getElem?_map] at this
 cases hr : (List.range n)[j]? with
 | none => rw [hr] at this; cases this
 | some k =>
  rw [hr] at this
  obtain ⟨q1, q2⟩ := List.getElem?_eq_some_iff.1 hr
  simp only [List.getElem_range] at q2
  simp only [Option.map_some, Option.some.injEq] at this
  have : j = i := by omega
  rw [hj, this]
theorem e0p (n : Nat) : a5w (b4q n) (n : Int) = none := b1r.2 fun h => by
 obtain ⟨k, h1, h2⟩ := List.mem_map.1 h
 rw [List.mem_range] at h1
 omega
theorem d8h (c : Bool) (vs : List Vi) (v : Vi) : a5t c (vs ++ [v]) = a5t c vs ++ [(.int .i64 (vs.length : Int), .agg (a1f c v))] := by
 simp [a5t, List.zipIdx_append]
theorem b6h {tt : TT} {et : TypeId} (h : vs[i]? = some v) : (∃ j kv, a5w (b4q vs.length) (i : Int) = some j ∧ (a5t c vs)[j]? = some (kv, .agg (a1f c v))) ∨ (a5w (b4q vs.length) (i : Int) = none ∧ ∃ S, tt et = some S ∧ AV.agg (a1f c v) = b4f S) :=
 .inl ⟨i, _, c6g (List.getElem?_eq_some_iff.1 h).1, e4z h⟩
theorem p4p (c : Bool) (vs : List Vi) : ∀ p ∈ a5t c vs, p.2.flatA = true := fun p hp => by
 obtain ⟨q, _, rfl⟩ := List.mem_map.1 hp; rfl
end
section
theorem d2n (c : Bool) (vs : List Vi) (k : Nat) (v : Vi) : a5t c (vs.set k v) = (a5t c vs).set k (.int .i64 (k : Int), .agg (a1f c v)) := by
 apply List.ext_getElem?
 intro i
 rw [List.getElem?_set, a5t, List.getElem?_map, List.getElem?_zipIdx, List.getElem?_set, a5t, List.getElem?_map, List.getElem?_zipIdx, List.length_map, List.length_zipIdx]
 by_cases e : k = i
 ·subst e
  by_cases h : k < vs.length
  ·simp [h]
  ·simp [h]
 ·simp [e]
theorem e0q {α : Type} {l : List α} {i : Nat} {a : α} (h : l[i]? = some a) : l.set i a = l := by
 obtain ⟨h1, rfl⟩ := List.getElem?_eq_some_iff.1 h
 exact List.set_getElem_self h1
end
section
theorem c6h (c : Bool) (p : Pa) (proc : Int) : r0r Tryz.prog 219 [.agg (a0t c p), .pv (.int .i64 proc)] (.pv (.bool (b5t proc p))) := by
 refine pX Tryz.f219 [.pv (.bool (b5t proc p))] 1 ?_
 refine dv 1 ?_
 refine x9x (id := 0) rfl rfl rfl (dv 3 ?_)
 refine u6u (out := .agg (y3y p.ev)) rfl y9y rfl rfl ?_
 refine x0x rfl rfl rfl (b3p ..) (dc 1 (aS ?_ ?_))<;>intro h<;>try simp at h
 ·refine dv 22 ?_
  refine x1x rfl ?_ rfl
  simp [b5t, *]
 refine dc 7 (aS ?_ ?_)<;>intro h<;>try simp at h
 ·refine dv 15 ?_
  refine x1x rfl ?_ rfl
  simp [b5t, *]
 refine dv 1 ?_
 refine u6u (out := .agg (p0p p.after)) rfl a1l rfl rfl ?_
 refine dv 0 ?_
 refine x0x rfl rfl rfl (b3o ..) (dc 2 (aS ?_ ?_))<;>intro h<;>try simp at h
 ·refine dv 10 ?_
  refine x1x rfl ?_ rfl
  simp [b5t, *]
 refine dv 2 ?_
 refine x0x rfl rfl rfl (a2q ..) (dc 2 (aS ?_ ?_))<;>intro h<;>try simp at h
 ·refine dv 5 ?_
  refine x1x rfl ?_ rfl
  simp [b5t, *]
 refine dv 2 ?_
 refine x0x rfl rfl rfl (b0o ..) (dv 3 ?_)
 refine x1x rfl ?_ rfl
 simp [b5t, *]
theorem b8g (c : Bool) (p : Pa) (proc : Int) : r0r Tryz.prog 120 [.agg (a0t c p), .pv (.int .i64 proc)] (.pv (.bool (b5t proc p))) := by
 refine pX Tryz.f120 [.pv (.bool (b5t proc p))] 1 ?_
 refine dv 1 ?_
 refine x9x (id := 0) rfl rfl rfl (dv 3 ?_)
 refine u6u (out := .agg (y3y p.ev)) rfl y9y rfl rfl ?_
 refine x0x rfl rfl rfl (b0y ..) (dc 1 (aS ?_ ?_))<;>intro h<;>try simp at h
 ·refine dv 22 ?_
  refine x1x rfl ?_ rfl
  simp [b5t, *]
 refine dc 7 (aS ?_ ?_)<;>intro h<;>try simp at h
 ·refine dv 15 ?_
  refine x1x rfl ?_ rfl
  simp [b5t, *]
 refine dv 1 ?_
 refine u6u (out := .agg (p0p p.after)) rfl a1l rfl rfl ?_
 refine dv 0 ?_
 refine x0x rfl rfl rfl (b0x ..) (dc 2 (aS ?_ ?_))<;>intro h<;>try simp at h
 ·refine dv 10 ?_
  refine x1x rfl ?_ rfl
  simp [b5t, *]
 refine dv 2 ?_
 refine x0x rfl rfl rfl (a2r ..) (dc 2 (aS ?_ ?_))<;>intro h<;>try simp at h
 ·refine dv 5 ?_
  refine x1x rfl ?_ rfl
  simp [b5t, *]
 refine dv 2 ?_
 refine x0x rfl rfl rfl (b0p ..) (dv 3 ?_)
 refine x1x rfl ?_ rfl
 simp [b5t, *]
theorem a3d  : r0r Tryz.prog 119 [] (.pv (.int .i64 100)) := by
 refine pX Tryz.f119 [.pv (.int .i64 100)] 0 ?_
 refine dv 5 ?_
 exact x1x rfl rfl rfl
theorem c6i (c : Bool) (l : La) : r0r Tryz.prog 113 [.agg (q8q c l)] (.pv (.bool (a9m l))) := by
 refine pX Tryz.f113 [.pv (.bool (a9m l))] 2 ?_
 refine dv 1 ?_
 refine x9x (id := 0) rfl rfl rfl (dv 5 fun K K' => ?_)
 refine x0x rfl rfl rfl (a6l ..) (dc 2 (aS ?_ ?_))<;>intro hg2<;>try simp at hg2
 ·have hn1 : ¬ (0 ≤ l.proc ∧ l.proc ≤ 3) := by omega
  refine dv 11 ?_
  try have hn3 : ¬ l.done.length ≤ 100 := by omega
  refine dv 3 ?_
  refine x1x rfl ?_ rfl
  exact congrArg (fun b : Bool => [AV.pv (.bool b)]) (e1v hn1).symm
 have hc1 : 0 ≤ l.proc ∧ l.proc ≤ 3 := hg2
 refine dv 1 ?_
 refine u6u (out := .agg (p0p l.base)) rfl a1l rfl rfl ?_
 refine dv 0 ?_
 refine x0x rfl rfl rfl (b3o ..) (dc 3 (aS ?_ ?_))<;>intro hg3<;>try simp at hg3
 ·have hn2 : ¬ c3k l.base := hg3
  refine dv 5 ?_
  try have hn3 : ¬ l.done.length ≤ 100 := by omega
  refine dv 3 ?_
  refine x1x rfl ?_ rfl
  exact congrArg (fun b : Bool => [AV.pv (.bool b)]) (e1w hn2).symm
 have hc2 : c3k l.base := hg3
 refine dc 5 (aI ?_ ?_)<;>intro h<;>try simp at h
 ·try have hn3 : ¬ l.done.length ≤ 100 := by omega
  refine dv 3 ?_
  refine x1x rfl ?_ rfl
  exact congrArg (fun b : Bool => [AV.pv (.bool b)]) (e1x hn3).symm
 have hc3 : l.done.length ≤ 100 := by omega
 refine dv 8 fun K K' => ?_
 refine x4x (ι := Nat) (fun i γ1 => [(24, pI (i : Int))]) (fun i γ1 => [(1, ((γ1 1), .dead))]) (fun i => i ≤ l.done.length ∧ a9m l = a8y (b5t l.proc) e1u (b1i l.done i) (l.done.drop i)) (fun i => l.done.length - i) (a0f [1, 22, 23] rfl) (u4u 0 rfl HE.nil) 0 ⟨by omega, d6v hc1 hc2 hc3⟩ [0, _] y2y y1y rfl fun i γ1 hi => ?_
 obtain ⟨h1, h2⟩ := hi
 refine dc 3 (fun K K' => aS ?_ ?_)<;>intro h<;>try simp at h
 ·obtain rfl : i = l.done.length := by omega
  rw [List.drop_length] at h2
  refine dv 4 ?_
  refine x1x rfl ?_ rfl
  exact congrArg (fun b : Bool => [AV.pv (.bool b)]) h2.symm
 obtain ⟨p, hp⟩ := gE l.done i
 rw [v1v hp] at h2
 refine dv 7 fun K K' => ?_
 refine x3x (id := 1) s1s b8c rfl (dv 6 ?_)
 refine x0x rfl rfl rfl (c6h ..) (dc 2 (aS ?_ ?_))<;>intro hg9<;>try simp at hg9
 ·have hbad : b5t l.proc p = false := by simpa using hg9
  refine dv 19 ?_
  refine x1x rfl ?_ rfl
  exact congrArg (fun b : Bool => [AV.pv (.bool b)]) (h2.trans (a5m _ _ hbad)).symm
 have hok : b5t l.proc p = true := by simpa using hg9
 refine dc 3 (aS ?_ ?_)<;>intro h<;>try simp at h
 ·have hi0 : i = 0 := by omega
  have hlast : b1i l.done i = none := by rw [hi0]; rfl
  rw [hlast] at h2
  refine dv 15 ?_
  refine x2x (b := 1) rfl rfl (by omega) (dv 1 ?_)
  exact ⟨i + 1, ⟨⟨by omega, by rw [h2]; show _ = a8y (b5t l.proc) e1u l.done[i]? _; rw [hp]; exact a6s _ _ hok⟩, by omega⟩, [0, _], y2y, y2y, y1y, y1y, rfl⟩
 have hi0 : 0 < i := by omega
 obtain ⟨b, hb⟩ := gE l.done (i - 1)
 have hlast : b1i l.done i = some b := by obtain ⟨j, rfl⟩ : ∃ j, i = j + 1 := ⟨i - 1, by omega⟩; exact hb
 rw [hlast] at h2
 refine dv 3 ?_
 refine a0c (b := 1) rfl rfl (by omega) (by omega) (dv 2 ?_)
 refine a0d (out := .agg (y3y b.ev)) rfl y9y rfl ?_
 refine dv 1 ?_
 refine u6u (out := .agg (y3y p.ev)) rfl y9y rfl rfl ?_
 refine dv 0 ?_
 refine x0x rfl rfl rfl (b0w ..) (dc 3 (aS ?_ ?_))<;>intro hc11<;>try simp at hc11
 ·try have hlt := hc11
  refine dv 2 ?_
  refine x2x (b := 1) rfl rfl (by omega) (dv 1 ?_)
  exact ⟨i + 1, ⟨⟨by omega, by rw [h2]; show _ = a8y (b5t l.proc) e1u l.done[i]? _; rw [hp]; exact a9l _ _ hok hlt⟩, by omega⟩, [0, _], y2y, y2y, y1y, y1y, rfl⟩
 try have hlt := hc11
 refine dv 3 ?_
 refine x1x rfl ?_ rfl
 exact congrArg (fun b : Bool => [AV.pv (.bool b)]) (h2.trans (b6z _ _ hlt)).symm
theorem b0q (c : Bool) (l : La) : r0r Tryz.prog 32 [.agg (q8q c l)] (.pv (.bool (a9m l))) := by
 refine pX Tryz.f32 [.pv (.bool (a9m l))] 1 ?_
 refine dv 1 ?_
 refine x9x (id := 0) rfl rfl rfl (dv 5 fun K K' => ?_)
 refine x0x rfl rfl rfl (a6m ..) (dc 2 (aS ?_ ?_))<;>intro hg2<;>try simp at hg2
 ·have hn1 : ¬ (0 ≤ l.proc ∧ l.proc ≤ 3) := by omega
  refine dv 12 ?_
  try have hn3 : ¬ l.done.length ≤ 100 := by omega
  refine dv 3 ?_
  refine x1x rfl ?_ rfl
  exact congrArg (fun b : Bool => [AV.pv (.bool b)]) (e1v hn1).symm
 have hc1 : 0 ≤ l.proc ∧ l.proc ≤ 3 := hg2
 refine dv 1 ?_
 refine u6u (out := .agg (p0p l.base)) rfl a1l rfl rfl ?_
 refine dv 0 ?_
 refine x0x rfl rfl rfl (b0x ..) (dc 3 (aS ?_ ?_))<;>intro hg3<;>try simp at hg3
 ·have hn2 : ¬ c3k l.base := hg3
  refine dv 6 ?_
  try have hn3 : ¬ l.done.length ≤ 100 := by omega
  refine dv 3 ?_
  refine x1x rfl ?_ rfl
  exact congrArg (fun b : Bool => [AV.pv (.bool b)]) (e1w hn2).symm
 have hc2 : c3k l.base := hg3
 refine dv 3 ?_
 refine x0x rfl rfl rfl (a3d ..) (dc 2 (aI ?_ ?_))<;>intro h<;>try simp at h
 ·try have hn3 : ¬ l.done.length ≤ 100 := by omega
  refine dv 3 ?_
  refine x1x rfl ?_ rfl
  exact congrArg (fun b : Bool => [AV.pv (.bool b)]) (e1x hn3).symm
 have hc3 : l.done.length ≤ 100 := by omega
 refine dv 5 fun K K' => ?_
 refine x4x (ι := Nat) (fun i γ1 => [(3, pI (i : Int))]) (fun i γ1 => []) (fun i => i ≤ l.done.length ∧ a9m l = a8y (b5t l.proc) e1u (b1i l.done i) (l.done.drop i)) (fun i => l.done.length - i) (x5x 1 rfl Cov.nil) (u4u 0 rfl HE.nil) 0 ⟨by omega, d6v hc1 hc2 hc3⟩ [] y2y y1y rfl fun i γ1 hi => ?_
 obtain ⟨h1, h2⟩ := hi
 refine dc 7 (fun K K' => aS ?_ ?_)<;>intro h<;>try simp at h
 ·obtain rfl : i = l.done.length := by omega
  rw [List.drop_length] at h2
  refine dv 4 ?_
  refine x1x rfl ?_ rfl
  exact congrArg (fun b : Bool => [AV.pv (.bool b)]) h2.symm
 obtain ⟨p, hp⟩ := gE l.done i
 rw [v1v hp] at h2
 refine dv 11 fun K K' => ?_
 refine x0x rfl rfl rfl (b8g ..) (dc 2 (aS ?_ ?_))<;>intro hg9<;>try simp at hg9
 ·have hbad : b5t l.proc p = false := by simpa using hg9
  refine dv 23 ?_
  refine x1x rfl ?_ rfl
  exact congrArg (fun b : Bool => [AV.pv (.bool b)]) (h2.trans (a5m _ _ hbad)).symm
 have hok : b5t l.proc p = true := by simpa using hg9
 refine dc 3 (aS ?_ ?_)<;>intro h<;>try simp at h
 ·have hi0 : i = 0 := by omega
  have hlast : b1i l.done i = none := by rw [hi0]; rfl
  rw [hlast] at h2
  refine dv 20 ?_
  refine x2x (b := 1) rfl rfl (by omega) (dv 1 ?_)
  exact ⟨i + 1, ⟨⟨by omega, by rw [h2]; show _ = a8y (b5t l.proc) e1u l.done[i]? _; rw [hp]; exact a6s _ _ hok⟩, by omega⟩, [], y2y, y2y, y1y, y1y, rfl⟩
 have hi0 : 0 < i := by omega
 obtain ⟨b, hb⟩ := gE l.done (i - 1)
 have hlast : b1i l.done i = some b := by obtain ⟨j, rfl⟩ : ∃ j, i = j + 1 := ⟨i - 1, by omega⟩; exact hb
 rw [hlast] at h2
 refine dv 3 ?_
 refine a0c (b := 1) rfl rfl (by omega) (by omega) (dv 2 ?_)
 refine a0d (out := .agg (y3y b.ev)) rfl y9y rfl ?_
 refine dv 5 ?_
 refine a0d (out := .agg (y3y p.ev)) rfl y9y rfl ?_
 refine dv 0 ?_
 refine x0x rfl rfl rfl (a6b ..) (dc 3 (aS ?_ ?_))<;>intro hc11<;>try simp at hc11
 ·try have hlt := hc11
  refine dv 3 ?_
  refine x2x (b := 1) rfl rfl (by omega) (dv 1 ?_)
  exact ⟨i + 1, ⟨⟨by omega, by rw [h2]; show _ = a8y (b5t l.proc) e1u l.done[i]? _; rw [hp]; exact a9l _ _ hok hlt⟩, by omega⟩, [], y2y, y2y, y1y, y1y, rfl⟩
 try have hlt := hc11
 refine dv 3 ?_
 refine x1x rfl ?_ rfl
 exact congrArg (fun b : Bool => [AV.pv (.bool b)]) (h2.trans (b6z _ _ hlt)).symm
end
section
theorem b8h (c : Bool) (n : Nd) : r0r Tryz.prog 233 [.agg (r4r c n)] (.pv (.bool (decide (a7h n)))) := by
 refine pX Tryz.f233 [.pv (.bool (decide (a7h n)))] 1 ?_
 refine dv 1 ?_
 refine x9x (id := 0) rfl rfl rfl (dv 4 ?_)
 refine x0x rfl rfl rfl (a6n ..) (dc 1 (aS ?_ ?_))<;>intro u<;>try simp at u
 ·refine dv 30 ?_
  refine x1x rfl ?_ rfl
  exact kF (by unfold a7h; omega)
 refine dv 2 ?_
 refine x0x rfl rfl rfl (y7y ..) (dc 2 (aS ?_ ?_))<;>intro u<;>try simp at u
 ·refine dv 25 ?_
  refine x1x rfl ?_ rfl
  exact kF (by unfold a7h; omega)
 refine dv 2 ?_
 refine x0x rfl rfl rfl (y7y ..) (dc 2 (aS ?_ ?_))<;>intro u<;>try simp at u
 ·refine dv 20 ?_
  refine x1x rfl ?_ rfl
  exact kF (by unfold a7h; omega)
 refine dv 2 ?_
 refine x0x rfl rfl rfl (y7y ..) (dc 2 (aS ?_ ?_))<;>intro u<;>try simp at u
 ·refine dv 15 ?_
  refine x1x rfl ?_ rfl
  exact kF (by unfold a7h; omega)
 refine dv 2 ?_
 refine x0x rfl rfl rfl (y7y ..) (dc 2 (aS ?_ ?_))<;>intro u<;>try simp at u
 ·refine dv 10 ?_
  refine x1x rfl ?_ rfl
  exact kF (by unfold a7h; omega)
 refine dv 2 ?_
 refine x0x rfl rfl rfl (y7y ..) (dc 2 (aS ?_ ?_))<;>intro u<;>try simp at u
 ·refine dv 5 ?_
  refine x1x rfl ?_ rfl
  exact kF (by unfold a7h; omega)
 refine dv 2 ?_
 refine x0x rfl rfl rfl (y7y ..) (dv 3 ?_)
 refine x1x rfl ?_ rfl
 exact congrArg (fun b : Bool => [AV.pv (.bool b)]) (decide_eq_decide.2 (by unfold a7h; omega))
theorem p1p  : r0r Tryz.prog 143 [] (.pv (.int .i64 9999)) := by
 refine pX Tryz.f143 [.pv (.int .i64 9999)] 0 ?_
 refine dv 5 ?_
 exact x1x rfl rfl rfl
theorem b0z (c : Bool) (v : Vi) : r0r Tryz.prog 168 [.agg (a1f c v)] (.pv (.bool (kb (d3w v)))) := by
 refine pX Tryz.f168 [.pv (.bool (kb (d3w v)))] 1 ?_
 refine dv 1 ?_
 refine x9x (id := 0) rfl rfl rfl (dv 4 ?_)
 refine x0x rfl rfl rfl (p1p ..) (x0x rfl rfl rfl (z1z ..) (dc 1 (aS ?_ ?_)))<;>intro u<;>try simp at u
 ·refine dv 12 ?_
  refine x1x rfl ?_ rfl
  exact congrArg (fun b : Bool => [AV.pv (.bool b)]) (a5y (fun h => by obtain ⟨q1, q2, q3⟩ := h; omega))
 refine dv 2 ?_
 refine x0x rfl rfl rfl (p1p ..) (dv 0 ?_)
 refine x0x rfl rfl rfl (z1z ..) (dc 2 (aS ?_ ?_))<;>intro u<;>try simp at u
 ·refine dv 6 ?_
  refine x1x rfl ?_ rfl
  exact congrArg (fun b : Bool => [AV.pv (.bool b)]) (a5y (fun h => by obtain ⟨q1, q2, q3⟩ := h; omega))
 refine dv 2 ?_
 refine x0x rfl rfl rfl (a3d ..) (dv 0 ?_)
 refine x0x rfl rfl rfl (a2r ..) (dv 3 ?_)
 refine x1x rfl ?_ rfl
 exact congrArg (fun b : Bool => [AV.pv (.bool b)]) (e4a ⟨fun h => ⟨by omega, by omega, h⟩, fun h => h.2.2⟩)
theorem c1e (c : Bool) (n : Nd) : r0r Tryz.prog 146 [.agg (r4r c n)] (.pv (.bool (kb (c4x n)))) := by
 refine pX Tryz.f146 [.pv (.bool (kb (c4x n)))] 1 ?_
 refine dv 1 ?_
 refine x9x (id := 0) rfl rfl rfl (dc 8 (fun K K' => aS ?_ ?_))<;>intro u<;>try simp at u
 ·refine dv 28 ?_
  refine x1x rfl ?_ rfl
  exact congrArg (fun b : Bool => [AV.pv (.bool b)]) (a5y (fun h => by obtain ⟨q1, q2, q3, q4, q5, q6⟩ := h; omega))
 refine dc 6 (aS ?_ ?_)<;>intro u<;>try simp at u
 ·refine dv 22 ?_
  refine x1x rfl ?_ rfl
  exact congrArg (fun b : Bool => [AV.pv (.bool b)]) (a5y (fun h => by obtain ⟨q1, q2, q3, q4, q5, q6⟩ := h; omega))
 refine dv 2 ?_
 refine x0x rfl rfl rfl (p1p ..) (dv 0 ?_)
 refine x0x rfl rfl rfl (z1z ..) (dc 3 (aS ?_ ?_))<;>intro u<;>try simp at u
 ·refine dv 15 ?_
  refine x1x rfl ?_ rfl
  exact congrArg (fun b : Bool => [AV.pv (.bool b)]) (a5y (fun h => by obtain ⟨q1, q2, q3, q4, q5, q6⟩ := h; omega))
 refine dv 2 ?_
 refine x0x rfl rfl rfl (p1p ..) (dv 0 ?_)
 refine x0x rfl rfl rfl (z1z ..) (dc 3 (aS ?_ ?_))<;>intro u<;>try simp at u
 ·refine dv 8 ?_
  refine x1x rfl ?_ rfl
  exact congrArg (fun b : Bool => [AV.pv (.bool b)]) (a5y (fun h => by obtain ⟨q1, q2, q3, q4, q5, q6⟩ := h; omega))
 refine dv 2 ?_
 refine x0x rfl rfl rfl (z1z ..) (dc 2 (aI ?_ ?_))<;>intro u<;>try simp at u
 ·refine dv 3 ?_
  refine x1x rfl ?_ rfl
  exact congrArg (fun b : Bool => [AV.pv (.bool b)]) (a5y (fun h => by obtain ⟨q1, q2, q3, q4, q5, q6⟩ := h; omega))
 have hL : n.views.length = 3 ∧ n.known.length = 3 ∧ (0 ≤ n.version ∧ n.version ≤ 9999) ∧ (0 ≤ n.round ∧ n.round ≤ 9999) ∧ (0 ≤ n.low ∧ n.low ≤ 41) := by omega
 refine dv 5 fun K K' => ?_
 refine x4x (ι := Nat) (fun i γ1 => [(3, pI (i : Int))]) (fun i γ1 => []) (fun i => i ≤ 3 ∧ c8f n.views (fun j v => ∀ k, n.known[j]? = some k → d3w v ∧ 0 ≤ k ∧ k ≤ 41) i) (fun i => 3 - i) (x5x 1 rfl Cov.nil) (u4u 0 rfl HE.nil) 0 ⟨by omega, a0z⟩ [] y2y y1y rfl fun i γ1 hi => ?_
 obtain ⟨h1, h2⟩ := hi
 refine dc 4 (fun K K' => aS ?_ ?_)<;>intro u<;>try simp at u
 ·obtain rfl : i = 3 := by omega
  refine dv 4 ?_
  refine x1x rfl ?_ rfl
  exact congrArg (fun b : Bool => [AV.pv (.bool b)]) (e1y ⟨hL.1, hL.2.1, hL.2.2.1, hL.2.2.2.1, hL.2.2.2.2, fun i v k a b => a2z h2 (by omega) i v a k b⟩)
 obtain ⟨v, hv⟩ := gE n.views i
 obtain ⟨k, hk⟩ := gE n.known i
 refine dv 9 fun K K' => ?_
 refine x0x rfl rfl rfl (b0z ..) (dc 2 (aS ?_ ?_))<;>intro hg11<;>try simp at hg11
 ·have hbad : ¬ d3w v := a4s (by simpa using hg11)
  refine dv 11 ?_
  refine x1x rfl ?_ rfl
  exact congrArg (fun b : Bool => [AV.pv (.bool b)]) (a5y (fun h => hbad (h.2.2.2.2.2 _ _ _ hv hk).1))
 have hvo : d3w v := a4r.1 (by simpa using hg11)
 refine dv 5 ?_
 refine x0x rfl rfl rfl (z1z ..) (dc 2 (aS ?_ ?_))<;>intro u<;>try simp at u
 ·refine dv 3 ?_
  refine x2x (b := 1) rfl rfl (by omega) (dv 1 ?_)
  exact ⟨i + 1, ⟨⟨by omega, a0e h2 hv (fun k2 hk2 => by rw [hk] at hk2; cases hk2; exact ⟨hvo, by omega⟩)⟩, by omega⟩, [], y2y, y2y, y1y, y1y, rfl⟩
 refine dv 3 ?_
 refine x1x rfl ?_ rfl
 exact congrArg (fun b : Bool => [AV.pv (.bool b)]) (a5y (fun h => by have := (h.2.2.2.2.2 _ _ _ hv hk).2; omega))
theorem c2j (c : Bool) (n : Nd) : r0r Tryz.prog 129 [.agg (r4r c n)] (.pv (.bool (kb (a1n n)))) := by
 refine pX Tryz.f129 [.pv (.bool (kb (a1n n)))] 4 ?_
 refine dv 1 ?_
 refine x9x (id := 0) rfl rfl rfl (dv 4 fun K K' => ?_)
 refine x0x rfl rfl rfl (b8h ..) (dc 2 (aS ?_ ?_))<;>intro hg2<;>try simp at hg2
 ·have hX : ¬ a7h n := hg2
  refine dv 14 ?_
  refine x1x rfl ?_ rfl
  exact congrArg (fun b : Bool => [AV.pv (.bool b)]) (a5y (fun h => by obtain ⟨q1, q2, q3, q4, q5, q6, q7, q8, q9⟩ := h; exact hX q1))
 have hA1 : a7h n := hg2
 refine dv 2 ?_
 refine x0x rfl rfl rfl (a2q ..) (dc 3 (aS ?_ ?_))<;>intro hg3<;>try simp at hg3
 ·have hX : ¬ a6t okE a1i n.kept 100 = true := by simpa using hg3
  refine dv 8 ?_
  refine x1x rfl ?_ rfl
  exact congrArg (fun b : Bool => [AV.pv (.bool b)]) (a5y (fun h => by obtain ⟨q1, q2, q3, q4, q5, q6, q7, q8, q9⟩ := h; exact hX q2))
 have hA2 : a6t okE a1i n.kept 100 = true := hg3
 refine dv 2 ?_
 refine x0x rfl rfl rfl (b0o ..) (dc 2 (aI ?_ ?_))<;>intro hc4<;>try simp at hc4
 ·try have hX : ¬ a6t okO a4e n.outs 96 = true := by simpa using hc4
  refine dv 3 ?_
  refine x1x rfl ?_ rfl
  exact congrArg (fun b : Bool => [AV.pv (.bool b)]) (a5y (fun h => by obtain ⟨q1, q2, q3, q4, q5, q6, q7, q8, q9⟩ := h; exact hX q3))
 have hA3 : a6t okO a4e n.outs 96 = true := hc4
 refine dv 8 fun K K' => ?_
 refine y8y 27 rfl fun hlen0 => ?_
 refine x4x (ι := Nat) (fun i γ1 => [(29, pI (i : Int))]) (fun i γ1 => [(1, ((γ1 1), .dead))]) (fun i => i ≤ n.outs.length ∧ c8f n.outs (fun _ o => o.time < n.g) i) (fun i => n.outs.length - i) (a0f [1, 27, 28] rfl) (a2k [0, 2, 3] rfl) 0 ⟨by omega, a0z⟩ [0, _] y2y y1y rfl fun i γ1 hi => ?_
 obtain ⟨a1, a2⟩ := hi
 refine dc 3 (fun K K' => aI ?_ ?_)<;>intro u<;>try simp at u
 ·obtain ⟨o, ho⟩ := gE n.outs i
  refine dv 6 fun K K' => ?_
  refine x3x (id := 1) u1u b5g rfl (dc 7 (aS ?_ ?_))<;>intro u<;>try simp at u
  ·have hlt : o.time < n.g := by omega
   refine dv 2 ?_
   refine x2x (b := 1) rfl rfl (by omega) (dv 1 ?_)
   exact ⟨i + 1, ⟨⟨by omega, a0e a2 ho hlt⟩, by omega⟩, [0, _], y2y, y2y, y1y, y1y, rfl⟩
  have hX : ¬ o.time < n.g := by omega
  refine dv 3 ?_
  refine x1x rfl ?_ rfl
  exact congrArg (fun b : Bool => [AV.pv (.bool b)]) (a5y (fun h => by obtain ⟨q1, q2, q3, q4, q5, q6, q7, q8, q9⟩ := h; exact hX (q4 _ _ ho)))
 have hO : ∀ (i : Nat) o, n.outs[i]? = some o → o.time < n.g := a2z a2 (by omega)
 refine dv 4 ?_
 refine x0x rfl rfl rfl (a3t ..) (dc 10 (fun K K' => aS ?_ ?_))<;>intro u<;>try simp at u
 ·refine dv 14 ?_
  refine x1x rfl ?_ rfl
  exact congrArg (fun b : Bool => [AV.pv (.bool b)]) (a5y (fun h => by obtain ⟨q1, q2, q3, q4, q5, q6, q7, q8, q9⟩ := h; omega))
 refine dc 6 (aS ?_ ?_)<;>intro u<;>try simp at u
 ·refine dv 8 ?_
  refine x1x rfl ?_ rfl
  exact congrArg (fun b : Bool => [AV.pv (.bool b)]) (a5y (fun h => by obtain ⟨q1, q2, q3, q4, q5, q6, q7, q8, q9⟩ := h; omega))
 refine dc 5 (aI ?_ ?_)<;>intro u<;>try simp at u
 ·refine dv 3 ?_
  refine x1x rfl ?_ rfl
  exact congrArg (fun b : Bool => [AV.pv (.bool b)]) (a5y (fun h => by obtain ⟨q1, q2, q3, q4, q5, q6, q7, q8, q9⟩ := h; omega))
 have hL : n.lanes.length = (a0j n.id 4).length ∧ n.views.length = 3 ∧ n.known.length = 3 := by omega
 refine dv 8 fun K K' => ?_
 refine y8y 61 rfl fun hlen1 => ?_
 refine x4x (ι := Nat) (fun j γ2 => [(63, pI (j : Int))]) (fun j γ2 => [(2, ((γ2 2), .dead))]) (fun j => j ≤ n.lanes.length ∧ c8f n.lanes (fun j l => (a0j n.id 4)[j]? = some l.proc ∧ a9m l = true) j) (fun j => n.lanes.length - j) (a0f [1, 5, 61, 62] rfl) (a2k [0, 1, 3] rfl) 0 ⟨by omega, a0z⟩ [0, 0, _] y2y y1y rfl fun j γ2 hi => ?_
 obtain ⟨b1, b2⟩ := hi
 refine dc 3 (fun K K' => aI ?_ ?_)<;>intro u<;>try simp at u
 ·obtain ⟨l, hl⟩ := gE n.lanes j
  obtain ⟨q, hq⟩ := gE (a0j n.id 4) j
  refine dv 7 fun K K' => ?_
  refine x3x (id := 2) s0s a6w rfl (dc 11 (aS ?_ ?_))<;>intro hg18<;>try simp at hg18
  ·have hX : ¬ l.proc = q := hg18
   refine dv 7 ?_
   refine x1x rfl ?_ rfl
   exact congrArg (fun b : Bool => [AV.pv (.bool b)]) (a5y (fun h => by obtain ⟨q1, q2, q3, q4, q5, q6, q7, q8, q9⟩ := h; have := (q8 _ _ hl).1; rw [hq] at this; exact hX (Option.some.inj this).symm))
  have hpe : l.proc = q := hg18
  refine dv 1 ?_
  refine x0x rfl rfl rfl (c6i ..) (dc 2 (aS ?_ ?_))<;>intro hc19<;>try simp at hc19
  ·have hlo : a9m l = true := hc19
   refine dv 2 ?_
   refine x2x (b := 1) rfl rfl (by omega) (dv 1 ?_)
   exact ⟨j + 1, ⟨⟨by omega, a0e b2 hl ⟨by rw [hq, hpe], hlo⟩⟩, by omega⟩, [0, 0, _], y2y, y2y, y1y, y1y, rfl⟩
  try have hX : ¬ a9m l = true := by simpa using hc19
  refine dv 3 ?_
  refine x1x rfl ?_ rfl
  exact congrArg (fun b : Bool => [AV.pv (.bool b)]) (a5y (fun h => by obtain ⟨q1, q2, q3, q4, q5, q6, q7, q8, q9⟩ := h; exact hX (q8 _ _ hl).2))
 have hN : d9u n := a2z b2 (by omega)
 refine dv 8 fun K K' => ?_
 refine y8y 82 rfl fun hlen2 => ?_
 refine x4x (ι := Nat) (fun k γ3 => [(84, pI (k : Int))]) (fun k γ3 => [(3, ((γ3 3), .dead))]) (fun k => k ≤ n.views.length ∧ c8f n.views (fun j v => ∀ k, n.known[j]? = some k → d3w v ∧ 0 ≤ k ∧ k ≤ 41) k) (fun k => n.views.length - k) (a0f [1, 82, 83] rfl) (a2k [0, 1, 2] rfl) 0 ⟨by omega, a0z⟩ [0, 0, 0, _] y2y y1y rfl fun k γ3 hi => ?_
 obtain ⟨c1, c2⟩ := hi
 refine dc 3 (fun K K' => aS ?_ ?_)<;>intro u<;>try simp at u
 ·have hV : d9t n := fun i v k0 a b => a2z c2 (by omega) i v a k0 b
  refine dv 4 ?_
  refine x1x rfl ?_ rfl
  exact congrArg (fun b : Bool => [AV.pv (.bool b)]) (e1y ⟨hA1, hA2, hA3, hO, hL.1, hL.2.1, hL.2.2, hN, hV⟩)
 obtain ⟨v, hv⟩ := gE n.views k
 obtain ⟨k0, hk⟩ := gE n.known k
 refine dv 7 fun K K' => ?_
 refine x3x (id := 3) p7p a4c rfl (dv 2 ?_)
 refine a7b (ι := Unit) (fun _i γ4 => [(10, .pv (.bool (kb (d3w v))))]) (fun _i γ4 => []) (fun _i => True) (a0f [1, 8, 82, 83, 84] rfl) (a2k [0, 1, 2, 3] rfl) ?_ fun _i γ4 hi => ?_
 ·refine dv 3 ?_
  refine x0x rfl rfl rfl (y7y ..) (dc 1 (aS ?_ ?_))<;>intro u<;>try simp at u
  ·refine dv 9 ?_
   exact ⟨(), trivial, [], (Cov.cons' (t := 10) rfl (by exact congrArg (fun b : Bool => AV.pv (.bool b)) (a5y (fun h => by obtain ⟨q1, q2, q3⟩ := h; omega))) Cov.nil), y2y, y1y, y1y, rfl⟩
  refine dv 2 ?_
  refine x0x rfl rfl rfl (y7y ..) (dc 2 (aS ?_ ?_))<;>intro u<;>try simp at u
  ·refine dv 4 ?_
   exact ⟨(), trivial, [], (Cov.cons' (t := 10) rfl (by exact congrArg (fun b : Bool => AV.pv (.bool b)) (a5y (fun h => by obtain ⟨q1, q2, q3⟩ := h; omega))) Cov.nil), y2y, y1y, y1y, rfl⟩
  refine dv 2 ?_
  refine x0x rfl rfl rfl (a2q ..) (dv 2 ?_)
  exact ⟨(), trivial, [], (Cov.cons' (t := 10) rfl (congrArg (fun b : Bool => AV.pv (.bool b)) (e4a ⟨fun h => ⟨by omega, by omega, h⟩, fun h => h.2.2⟩)) Cov.nil), y2y, y1y, y1y, rfl⟩
 ·try dsimp only [d2l, d2m]
  refine dc 4 (aS ?_ ?_)<;>intro hg27<;>try simp at hg27
  ·have hX : ¬ d3w v := a4s (by simpa using hg27)
   refine dv 11 ?_
   refine x1x rfl ?_ rfl
   exact congrArg (fun b : Bool => [AV.pv (.bool b)]) (a5y (fun h => by obtain ⟨q1, q2, q3, q4, q5, q6, q7, q8, q9⟩ := h; exact hX (q9 _ _ _ hv hk).1))
  have hvo : d3w v := a4r.1 (by simpa using hg27)
  refine dv 5 ?_
  refine x0x rfl rfl rfl (y7y ..) (dc 2 (aS ?_ ?_))<;>intro u<;>try simp at u
  ·refine dv 2 ?_
   refine x2x (b := 1) rfl rfl (by omega) (dv 1 ?_)
   exact ⟨k + 1, ⟨⟨by omega, a0e c2 hv (fun k2 hk2 => by rw [hk] at hk2; cases hk2; exact ⟨hvo, by omega⟩)⟩, by omega⟩, [0, 0, 0, _], y2y, y2y, y1y, y1y, rfl⟩
  refine dv 3 ?_
  refine x1x rfl ?_ rfl
  exact congrArg (fun b : Bool => [AV.pv (.bool b)]) (a5y (fun h => by obtain ⟨q1, q2, q3, q4, q5, q6, q7, q8, q9⟩ := h; have := (q9 _ _ _ hv hk).2; omega))
end
section
def a8m (l : List Ev) : List (Value × AV) := (w9w l).map fun k => (c1t (evN k), pI (l.count k : Nat))
def a3n (l : List Ev) (e : Ev) : Nat := (a5w (w9w l) e).getD (w9w l).length
def b4r (l : List Ev) (e : Ev) : List (Value × AV) := if e ∈ l then a8m l else a8m l ++ [(c1t (evN e), pI (l.count e : Nat))]
theorem a1c (l : List Ev) : (a8m l).map (·.1) = (w9w l).map fun k => c1t (evN k) := by
 rw [a8m, List.map_map]; rfl
variable {l : List Ev} {e : Ev}
theorem d2o {j : Nat} (h : a5w (w9w l) e = some j) : (a8m l)[j]? = some (c1t (evN e), pI (l.count e : Nat)) := by
 rw [a8m, List.getElem?_map, b4e h]; rfl
theorem c6j (h : a5w (w9w l) e = none) : e ∉ l ∧ l.count e = 0 := by
 have := b1r.1 h
 rw [a0y] at this
 exact ⟨this, List.count_eq_zero.2 this⟩
variable {tt : TT} {et : TypeId} {S : TS}
theorem b7j (hs : tt et = some S) (hz : b4f S = pI 0) (l : List Ev) (e : Ev) : (∃ j kv, a5w (w9w l) e = some j ∧ (a8m l)[j]? = some (kv, pI (l.count e : Nat))) ∨ (a5w (w9w l) e = none ∧ ∃ S, tt et = some S ∧ pI (l.count e : Nat) = b4f S) := by
 cases h : a5w (w9w l) e with
 | some j => exact .inl ⟨j, _, rfl, d2o h⟩
 | none => exact .inr ⟨rfl, S, hs, by rw [hz, (c6j h).2]; rfl⟩
theorem a4b (hs : tt et = some S) (hz : b4f S = pI 0) (l : List Ev) (e : Ev) :
  (a5w (w9w l) e = some (a3n l e) ∧ (a8m l)[a3n l e]? = some (c1t (evN e), pI (l.count e : Nat)) ∧ b4r l e = a8m l) ∨
   (a5w (w9w l) e = none ∧ a3n l e = (a8m l).length ∧ b4r l e = a8m l ++ [(c1t (evN e), pI (l.count e : Nat))] ∧ ∃ S, tt et = some S ∧ pI (l.count e : Nat) = b4f S) := by
 cases h : a5w (w9w l) e with
 | some j =>
  have hm : e ∈ l := by
   rw [← a0y]; exact List.mem_of_getElem? (b4e h)
  have hp : a3n l e = j := by rw [a3n, h]; rfl
  exact .inl ⟨by rw [hp], by rw [hp]; exact d2o h, if_pos hm⟩
 | none =>
  have hn := c6j h
  exact .inr ⟨rfl, by rw [a3n, h, a8m, List.length_map]; rfl, if_neg hn.1, S, hs, by rw [hz, hn.2]; rfl⟩
theorem a1d (l : List Ev) (e : Ev) : (b4r l e)[a3n l e]? = some (c1t (evN e), pI (l.count e : Nat)) := by
 rcases a4b (tt := fun _ => some ⟨.oth, 1, 8, [.int .i64 0]⟩) (et := 0) rfl rfl l e with ⟨h1, h2, h3⟩ | ⟨h1, h2, h3, _⟩
 ·rw [h3]; exact h2
 ·rw [h3, h2, List.getElem?_append_right (Nat.le_refl _), Nat.sub_self]; rfl
def e0r (l : List Ev) (e : Ev) : List Ev := if e ∈ l then w9w l else w9w l ++ [e]
theorem b2z (l : List Ev) (e : Ev) : (b4r l e).map (·.1) = (e0r l e).map fun k => c1t (evN k) := by
 unfold b4r e0r
 split
 ·exact a1c l
 ·rw [List.map_append, List.map_append, a1c]; rfl
theorem c9b {κ : Type} [DecidableEq κ] {k : κ} : ∀ {ks : List κ}, a5w ks k = none → a5w (ks ++ [k]) k = some ks.length
 | [], _ => by simp [a5w]
 | a :: r, h => by
  simp only [a5w] at h
  split at h
  ·cases h
  ·rename_i hne
   simp only [List.cons_append, a5w, if_neg hne, List.length_cons]
   rw [c9b (by simpa using h)]; rfl
theorem b3a (l : List Ev) (e : Ev) : (∃ j kv, a5w (e0r l e) e = some j ∧ (b4r l e)[j]? = some (kv, pI (l.count e : Nat))) ∨ (a5w (e0r l e) e = none ∧ ∃ S, tt et = some S ∧ pI (l.count e : Nat) = b4f S) := by
 refine .inl ⟨a3n l e, _, ?_, a1d l e⟩
 unfold e0r
 cases h : a5w (w9w l) e with
 | some j =>
  have hm : e ∈ l := by rw [← a0y]; exact List.mem_of_getElem? (b4e h)
  rw [if_pos hm, a3n, h]; rfl
 | none => rw [if_neg (c6j h).1, c9b h, a3n, h]; rfl
theorem a1v (l : List Ev) (e : Ev) : (b4r l e).set (a3n l e) (c1t (evN e), pI ((l.count e + 1 : Nat) : Int)) = a8m (l ++ [e]) := by
 have hc : ∀ k, k ≠ e → (l ++ [e]).count k = l.count k := fun k hk => by
  rw [List.count_append, List.count_singleton]
  simp [Ne.symm hk]
 have hce : (l ++ [e]).count e = l.count e + 1 := by
  rw [List.count_append, List.count_singleton]; simp
 by_cases hm : e ∈ l
 ·have ho : w9w (l ++ [e]) = w9w l := by rw [b0e, if_pos ((a0y e l).2 hm)]
  obtain ⟨j, hj⟩ := c7p ((a0y e l).2 hm)
  have hp : a3n l e = j := by rw [a3n, hj]; rfl
  have hg := b4e hj
  rw [b4r, if_pos hm, hp, a8m, a8m, ho]
  apply List.ext_getElem?
  intro i
  rw [List.getElem?_set, List.getElem?_map, List.length_map]
  by_cases hi : j = i
  ·subst hi
   rw [if_pos rfl, if_pos (List.getElem?_eq_some_iff.1 hg).1, List.getElem?_map, hg]
   simp only [Option.map_some, hce]
  ·rw [if_neg hi, List.getElem?_map]
   cases hk : (w9w l)[i]? with
   | none => rfl
   | some k =>
    have hne : k ≠ e := fun h => by
     subst h
     exact hi ((List.getElem?_inj (List.getElem?_eq_some_iff.1 hg).1 (b7x l)).1 (hg.trans hk.symm))
    simp only [Option.map_some, hc k hne]
 ·have h0 : a5w (w9w l) e = none := b1r.2 (by rw [a0y]; exact hm)
  have ho : w9w (l ++ [e]) = w9w l ++ [e] := by rw [b0e, if_neg (by rw [a0y]; exact hm)]
  have hp : a3n l e = (a8m l).length := by rw [a3n, h0, a8m, List.length_map]; rfl
  rw [b4r, if_neg hm, hp, List.set_append_right _ _ (Nat.le_refl _), Nat.sub_self, List.set_cons_zero, a8m, a8m, ho, List.map_append]
  congr 1
  ·refine List.map_congr_left fun k hk => ?_
   rw [hc k (fun h => hm ((a0y e l).1 (h ▸ hk)))]
  ·simp only [List.map_cons, List.map_nil, hce]
theorem d0o : (l ++ [e]).count e = 1 → b0d a1i (w9w (l ++ [e])) = b5s a1i (b0d a1i (w9w l)) e := fun h => by
 have : e ∉ l := by
  rw [List.count_append, List.count_singleton] at h
  exact List.count_eq_zero.1 (by simpa using h)
 rw [b0e, if_neg (by rw [a0y]; exact this), c3h]
theorem d0p : ¬ (l ++ [e]).count e = 1 → w9w (l ++ [e]) = w9w l := fun h => by
 have : e ∈ l := by
  rw [List.count_append, List.count_singleton] at h
  refine Classical.byContradiction fun hn => h ?_
  rw [List.count_eq_zero.2 hn]; simp
 rw [b0e, if_pos (by rw [a0y]; exact this)]
end
section
theorem a5u (l : List Ev) (x : Ev) (hl : l.length ≤ 1000000000) : Meth Tryz.prog 275 2 [0] [.ptr 0 0 0, .agg (y3y x)] [(0, (0, .box 303 [.ref 1 0, .fn (.func 127) [] []])), (1, (0, .row 153 7 ((l).map y3y)))] (.tup []) [(0, (0, .box 303 [.ref 1 0, .fn (.func 127) [] []])), (1, (0, .row 153 7 ((b5s a1i l x).map y3y)))] := by
 refine mX Tryz.f275 [] 2 3 fun γ => ?_
 refine dv 1 ?_
 refine x9x (id := 2) rfl rfl rfl (dv 7 ?_)
 refine v7v (id := 3) a1g rfl p6p rfl rfl rfl rfl rfl rfl (v5v rfl rfl a1g rfl p6p rfl rfl rfl rfl (by rfl) (p5p _ _ _) (by (simp only [a3c, a1u, a2b, a2g, T153]; omega)) ?_)
 refine dv 9 ?_
 refine a0c (b := 1) rfl rfl (by (simp; done)) (by (simp; omega)) ?_
 refine dv 2 ?_
 refine x4x (ι := Nat × List Ev) (fun i γ1 => [(4, pI (i.1 : Int))]) (fun i γ1 => [(1, ((γ1 1), .row 153 7 ((i.2).map y3y))), (0, ((γ 0), .box 303 [.ref 1 (γ1 1), .fn (.func 127) [] []]))]) (fun i => a7d a1i i.2 i.1 = b5s a1i l x ∧ i.1 < i.2.length ∧ i.2.length = l.length + 1) (fun i => i.1) (x5x 0 rfl Cov.nil) (a2k [2, 3, 4] rfl) (l.length, l ++ [x]) ⟨rfl, by simp, by simp⟩ [0, _] (Cov.cons' (t := 4) rfl (by simp) Cov.nil) y1y rfl fun i γ1 hi => ?_
 obtain ⟨k, m⟩ := i
 obtain ⟨h1, h2, h3⟩ := hi
 dsimp only at h1 h2 h3 ⊢
 refine dc 4 (fun K K' => aS ?_ ?_)<;>intro h<;>try simp at h
 ·have hk : k = 0 := by omega
  subst hk
  have hfin := siftUp_zero.symm.trans h1
  refine dv 1 ?_
  exact ⟨[γ 0, _], rfl, rfl, HE.box rfl rfl (HE.row rfl (by rw [← hfin]) HE.nil)⟩
 obtain ⟨a, ha⟩ := gE m k
 obtain ⟨b, hb⟩ := gE m ((k - 1) / 2)
 have hp : (k - 1) / 2 < k := by omega
 refine dv 4 ?_
 refine a0c (b := 1) rfl rfl (by omega) (by omega) (d5i (b := 2) rfl rfl (by omega) (by omega) (dv 12 fun K K' => ?_))
 refine z0z (j := k) rfl rfl a1g rfl p6p rfl rfl (by omega) ?_
 refine dv 6 ?_
 refine z0z (j := (k - 1) / 2) rfl rfl a1g rfl p6p rfl rfl (by omega) ?_
 refine dv 1 ?_
 refine x0x rfl rfl rfl (a5n _ _) (dc 1 (aI ?_ ?_))<;>intro hc4<;>try simp at hc4
 ·have hfin := (b4k ha hb hc4).symm.trans h1
  refine dv 1 ?_
  exact ⟨[γ 0, _], rfl, rfl, HE.box rfl rfl (HE.row rfl (by rw [← hfin]) HE.nil)⟩
 have hg := hc4
 refine dv 17 ?_
 refine z0z (j := (k - 1) / 2) rfl rfl a1g rfl p6p rfl rfl (by omega) ?_
 refine dv 6 ?_
 refine z0z (j := k) rfl rfl a1g rfl p6p rfl rfl (by omega) ?_
 refine dv 1 ?_
 refine z0z (j := k) rfl rfl a1g rfl p6p rfl rfl (by omega) ?_
 refine w8w (el' := b) rfl rfl p6p rfl rfl rfl ha rfl (a0g _) rfl rfl ?_
 refine z0z (j := (k - 1) / 2) rfl rfl a1g rfl p6p rfl rfl (by rw [List.length_set]; omega) ?_
 refine w8w (el' := a) rfl rfl p6p rfl rfl rfl (by rw [List.getElem?_set_ne (by omega)]; exact hb) rfl (a0g _) rfl rfl ?_
 refine dv 3 ?_
 exact ⟨((k - 1) / 2, sw m k ((k - 1) / 2)), ⟨⟨by rw [← h1, b4j (by omega) ha hb hg], by rw [a8c]; dsimp only; omega, by rw [a8c]; exact h3⟩, (by dsimp only; omega)⟩, [0, _], y2y, y2y, (HE.row rfl (by rw [d6l ha hb]) (HE.box rfl rfl HE.nil)), y1y, rfl⟩
theorem a6c (m : Ev) (r : List Ev) (hl : r.length ≤ 1000000000) : Meth Tryz.prog 305 2 [0] [.ptr 0 0 0] [(0, (0, .box 303 [.ref 1 0, .fn (.func 127) [] []])), (1, (0, .row 153 7 ((m :: r).map y3y)))] (.agg (y3y m)) [(0, (0, .box 303 [.ref 1 0, .fn (.func 127) [] []])), (1, (0, .row 153 7 ((b0c a1i (m :: r)).map y3y)))] := by
 refine u9u z9z (fn := Tryz.f305) (by kernel_rfl) (by kernel_rfl) rfl (O0 := [.agg (y3y m)]) 2 2 (a0w rfl) (by rfl) (by repeat (first | exact BndH.nil | refine BndH.box rfl ?_ | refine BndH.row (y5y fun _ => rfl) ?_)) (by repeat (first | exact BndH.nil | refine BndH.box rfl ?_ | refine BndH.row (y5y fun _ => rfl) ?_)) (by rfl) fun γ => ?_
 show Ex Tryz.prog _ _ [(0, .ptr 0 (γ 0) 0)] [(0, ((γ 0), .box 303 [.ref 1 (γ 1), .fn (.func 127) [] []])), (1, ((γ 1), .row 153 7 ((m :: r).map y3y))), (3, (0, .dead)), (2, (0, .dead))] _
 obtain ⟨T0, hT⟩ : ∃ T0, T0 = ((m :: r).set 0 ((m :: r).getLast (by simp))).take r.length := ⟨_, rfl⟩
 have hres : b0c a1i (m :: r) = a0r a1i T0 0 := by rw [hT]; rfl
 have hTl : T0.length = r.length := by rw [hT]; simp
 have hlast : (m :: r)[(m :: r).length - 1]? = some ((m :: r).getLast (by simp)) := by rw [← List.getLast?_eq_getElem?, List.getLast?_eq_some_getLast]
 refine exR (x3x (id := 2) p6p c2y rfl (exR (q1q rfl (e1o rfl rfl (x8x rfl d4r rfl rfl a1g rfl rfl (u6u rfl a1g rfl rfl ?_))))))
 refine z0z (j := 0) rfl rfl a1g rfl p6p rfl rfl (by simp) ?_
 refine a9h rfl p6p rfl (show (m :: r)[0]? = some m from rfl) rfl rfl ?_
 refine x3x (id := 3) p6p c2y rfl (dv 7 ?_)
 refine a0c (b := 1) rfl rfl (by (simp; done)) (by (simp; omega)) ?_
 refine dv 11 ?_
 refine z0z (j := (m :: r).length - 1) rfl rfl a1g rfl p6p rfl rfl (by simp) ?_
 refine dv 1 ?_
 refine z0z (j := 0) rfl rfl a1g rfl p6p rfl rfl (by simp) ?_
 refine w8w (el' := ((m :: r).getLast (by simp))) rfl rfl p6p rfl rfl rfl (show (m :: r)[0]? = some m from rfl) rfl (a0g _) rfl rfl ?_
 refine dv 7 ?_
 refine d1l z9z (u := (m :: r).length - 1) (ys := T0.map y3y) rfl a1g rfl p6p rfl rfl rfl (by (simp; done)) (by rw [hT, List.map_take]; rfl) ?_
 refine dv 6 ?_
 refine x4x (ι := Nat × List Ev) (fun i γ1 => [(5, pI (i.1 : Int))]) (fun i γ1 => [(1, ((γ1 1), .row 153 7 ((i.2).map y3y))), (0, ((γ 0), .box 303 [.ref 1 (γ1 1), .fn (.func 127) [] []]))]) (fun i => a0r a1i i.2 i.1 = b0c a1i (m :: r) ∧ i.2.length = r.length ∧ i.1 ≤ r.length) (fun i => i.2.length - i.1) (a0f [0, 2, 3, 4] rfl) (a2k [2, 3] rfl) (0, T0) ⟨hres.symm, hTl, by omega⟩ [0, _] y2y y1y rfl fun i γ1 hi => ?_
 obtain ⟨k, t⟩ := i
 obtain ⟨h1, h2, h3⟩ := hi
 dsimp only at h1 h2 h3 ⊢
 refine dv 3 ?_
 refine d5h (a := 2) rfl rfl (by omega) (x2x (b := 1) rfl rfl (by omega) (dc 6 (fun K K' => aI ?_ ?_)))<;>intro h<;>try simp at h
 ·have hfin := (a4n (lt := a1i) (l := t) (k := k) (by omega)).symm.trans h1
  refine dv 4 ?_
  exact ⟨[γ 0, _], rfl, rfl, HE.box rfl rfl (HE.row rfl (by rw [← hfin]) HE.nil)⟩
 have hlt : 2 * k + 1 < t.length := by omega
 refine dv 1 ?_
 refine a7b (ι := Unit) (fun _i γ2 => [(6, pI (a2c a1i t k : Int))]) (fun _i γ2 => []) (fun _i => True) (a0f [0, 2, 3, 4, 5] rfl) (a2k [0, 1, 2, 3] rfl) ?_ fun _i γ2 hi => ?_
 ·refine dv 2 ?_
  refine x2x (b := 1) rfl rfl (by omega) (dc 3 (aS ?_ ?_))<;>intro h<;>try simp at h
  ·have hlt2 : ¬ 2 * k + 2 < t.length := by omega
   refine dv 22 ?_
   exact ⟨(), trivial, [], (Cov.cons' (t := 6) rfl (by rw [d6q (by omega)]) Cov.nil), y2y, y1y, y1y, rfl⟩
  have hlt2 : 2 * k + 1 + 1 < t.length := by omega
  obtain ⟨c1, hc1⟩ := gE t (2 * k + 1 + 1)
  obtain ⟨d1, hd1⟩ := gE t (2 * k + 1)
  refine dv 9 ?_
  refine x2x (b := 1) rfl rfl (by omega) (dv 0 ?_)
  refine z0z (j := 2 * k + 1 + 1) rfl rfl a1g rfl p6p rfl rfl (by omega) ?_
  refine dv 6 ?_
  refine z0z (j := 2 * k + 1) rfl rfl a1g rfl p6p rfl rfl (by omega) ?_
  refine dv 1 ?_
  refine x0x rfl rfl rfl (a5n _ _) (dc 1 (aS ?_ ?_))<;>intro hc4<;>try simp at hc4
  ·try have hl1 := hc4
   refine dv 1 ?_
   exact ⟨(), trivial, [], (Cov.cons' (t := 6) rfl (by rw [d6p hc1 hd1 hl1]) Cov.nil), y2y, y1y, y1y, rfl⟩
  have hl1 := hc4
  refine dv 2 ?_
  refine x2x (b := 1) rfl rfl (by omega) (dv 1 ?_)
  exact ⟨(), trivial, [], (Cov.cons' (t := 6) rfl (by rw [d6o hc1 hd1 hl1]) Cov.nil), y2y, y1y, y1y, rfl⟩
 ·try dsimp only [d2l, d2m]
  have hch := a9y (lt := a1i) t k
  obtain ⟨a, ha⟩ := gE t (a2c a1i t k)
  obtain ⟨b, hb⟩ := gE t k
  refine dv 11 fun K K' => ?_
  refine z0z (j := a2c a1i t k) rfl rfl a1g rfl p6p rfl rfl (by omega) ?_
  refine dv 6 ?_
  refine z0z (j := k) rfl rfl a1g rfl p6p rfl rfl (by omega) ?_
  refine dv 1 ?_
  refine x0x rfl rfl rfl (a5n _ _) (dc 1 (aI ?_ ?_))<;>intro hc7<;>try simp at hc7
  ·have hfin := (b0a ha hb hc7).symm.trans h1
   refine dv 4 ?_
   exact ⟨[γ 0, _], rfl, rfl, HE.box rfl rfl (HE.row rfl (by rw [← hfin]) HE.nil)⟩
  have hg := hc7
  refine dv 17 ?_
  refine z0z (j := a2c a1i t k) rfl rfl a1g rfl p6p rfl rfl (by omega) ?_
  refine dv 6 ?_
  refine z0z (j := k) rfl rfl a1g rfl p6p rfl rfl (by omega) ?_
  refine dv 1 ?_
  refine z0z (j := k) rfl rfl a1g rfl p6p rfl rfl (by omega) ?_
  refine w8w (el' := a) rfl rfl p6p rfl rfl rfl hb rfl (a0g _) rfl rfl ?_
  refine z0z (j := a2c a1i t k) rfl rfl a1g rfl p6p rfl rfl (by rw [List.length_set]; omega) ?_
  refine w8w (el' := b) rfl rfl p6p rfl rfl rfl (by rw [List.getElem?_set_ne (by omega)]; exact ha) rfl (a0g _) rfl rfl ?_
  refine dv 3 ?_
  exact ⟨(a2c a1i t k, sw t (a2c a1i t k) k), ⟨⟨by rw [← h1, a9z (by omega) ha hb hg], by rw [a8c]; exact h2, by dsimp only; omega⟩, (by dsimp only; rw [a8c]; omega)⟩, [0, _], y2y, y2y, (HE.row rfl (by rw [d6l ha hb, List.set_comm _ _ (by omega)]) (HE.box rfl rfl HE.nil)), y1y, rfl⟩
theorem a5l (l : List Ev) (hl : l.length ≤ 1000000000) : Meth Tryz.prog 276 2 [0] [.ptr 0 0 0] [(0, (0, .box 303 [.ref 1 0, .fn (.func 127) [] []])), (1, (0, .row 153 7 ((l).map y3y)))] (.row (.rd true) 153 7 ((a3r a1i l.length l).map y3y)) [(0, (0, .box 303 [.ref 1 0, .fn (.func 127) [] []])), (1, (0, .row 153 7 ((([] : List Ev)).map y3y)))] := by
 refine mX Tryz.f276 [.row (.rd true) 153 7 ((a3r a1i l.length l).map y3y)] 2 3 fun γ => ?_
 refine dv 8 ?_
 refine c4g z9z (id := 2) a1g rfl p6p rfl rfl (by (simp only [a3c, a1u, a2b, a2g, T153]; omega)) (by (unfold maxLen; omega)) rfl ?_
 refine dv 3 fun K K' => ?_
 refine x4x (ι := List Ev × List Ev) (fun i γ1 => [(3, .ref 2 (γ1 2))]) (fun i γ1 => [(1, ((γ1 1), .row 153 7 ((i.1).map y3y))), (2, ((γ1 2), .row 153 7 ((i.2).map y3y))), (0, ((γ 0), .box 303 [.ref 1 (γ1 1), .fn (.func 127) [] []])), (3, ((γ1 3), .dead)), (4, ((γ1 4), .dead))]) (fun i => i.2 ++ a3r a1i i.1.length i.1 = a3r a1i l.length l ∧ i.1.length + i.2.length = l.length) (fun i => i.1.length) (x5x 0 rfl Cov.nil) HE.nil (l, []) ⟨rfl, rfl⟩ [0, _, _, _, _] y2y y1y rfl fun i γ1 hi => ?_
 obtain ⟨ls, o⟩ := i
 obtain ⟨h1, h2⟩ := hi
 dsimp only at h1 h2 ⊢
 refine dc 8 (fun K K' => aS ?_ ?_)<;>intro hc3<;>try simp at hc3
 ·obtain rfl : ls = [] := hc3
  have ho : o = a3r a1i l.length l := by rw [← h1]; simp [a3r]
  subst ho
  refine dv 1 ?_
  refine q6q 3 rfl rfl (fun _ => rfl) ?_
  refine dv 4 ?_
  exact ⟨[γ 0, _], rfl, rfl, y1y⟩
 obtain ⟨m, r, rfl⟩ : ∃ m r, ls = m :: r := by cases ls with | nil => simp at hc3 | cons m r => exact ⟨m, r, rfl⟩
 simp only [a2b] at h2
 refine dv 5 ?_
 refine rlM [0, 1] [_, _] (a6c m r (by omega)) rfl rfl rfl ?_
 refine v7v (id := 3) a1g rfl p6p rfl rfl rfl rfl rfl rfl (v5v rfl rfl a1g rfl p6p rfl rfl rfl rfl (by rfl) (p5p _ _ _) (by (simp only [a3c, a1u, a2b, a2g, T153]; omega)) ?_)
 refine dv 1 ?_
 exact ⟨(b0c a1i (m :: r), o ++ [m]), ⟨⟨by rw [← h1, a7e, List.append_assoc]; rfl, by rw [a7e, List.length_append]; simp only [a2b, a2g] at h2 ⊢; omega⟩, (by dsimp only; rw [a7e]; simp)⟩, [0, _, _, _, _], y2y, y2y, (HE.row rfl rfl (HE.row rfl (by simp) (HE.box rfl rfl (HE.kill rfl (HE.kill rfl HE.nil))))), y1y, rfl⟩
end
end Go.Proofs.YtlgknoapdbpojaaGreat.Am
