/- Part 3 of the texts that the proof of LawFnExactNodeReport leans on, merged by program. -/
import Derived.Test.YtpadkogpeobboaaGreatKi2
set_option linter.unusedVariables false
set_option linter.unusedSimpArgs false
namespace Go.Proofs.YtpadkogpeobboaaGreat.Am
open Go Go.RowKit
section
theorem u1u : (∀ ρ c i g e, a4m ρ c (i, (g, e)) = (ρ i, (c i, inE ρ c e))) ∧
 (∀ ρ c, inB ρ c (.any) = .any) ∧
 (∀ ρ c, inD ρ c (.any) = .any) ∧
 (∀ ρ c, inC ρ c (.any) = .any) ∧
 (∀ ρ c, inA ρ c (.any) = .any) ∧
 (∀ ρ c, inT ρ c (.any) = .any) ∧
 (∀ ρ c v, inB ρ c (.pv v) = .pv v) ∧
 (∀ ρ c v, inD ρ c (.pv v) = .pv v) ∧
 (∀ ρ c v, inC ρ c (.pv v) = .pv v) ∧
 (∀ ρ c v, inA ρ c (.pv v) = .pv v) ∧
 (∀ ρ c v, inT ρ c (.pv v) = .pv v) ∧
 (∀ ρ c m ty sz xs, inB ρ c (.row m ty sz xs) = .row m ty sz xs) ∧
 (∀ ρ c m ty sz xs, inD ρ c (.row m ty sz xs) = .row m ty sz xs) ∧
 (∀ ρ c m ty sz xs, inC ρ c (.row m ty sz xs) = .row m ty sz xs) ∧
 (∀ ρ c m ty sz xs, inA ρ c (.row m ty sz xs) = .row m ty sz xs) ∧
 (∀ ρ c m ty sz xs, inT ρ c (.row m ty sz xs) = .row m ty sz xs) ∧
 (∀ ρ c i g, inB ρ c (.ref i g) = .ref (ρ i) (c i)) ∧
 (∀ ρ c i g, inD ρ c (.ref i g) = .ref (ρ i) (c i)) ∧
 (∀ ρ c i g, inC ρ c (.ref i g) = .ref (ρ i) (c i)) ∧
 (∀ ρ c i g, inA ρ c (.ref i g) = .ref (ρ i) (c i)) ∧
 (∀ ρ c i g, inT ρ c (.ref i g) = .ref (ρ i) (c i)) ∧
 (∀ ρ c i g a b, inB ρ c (.bsl i g a b) = .bsl (ρ i) (c i) a b) ∧
 (∀ ρ c i g a b, inD ρ c (.bsl i g a b) = .bsl (ρ i) (c i) a b) ∧
 (∀ ρ c i g a b, inC ρ c (.bsl i g a b) = .bsl (ρ i) (c i) a b) ∧
 (∀ ρ c i g a b, inA ρ c (.bsl i g a b) = .bsl (ρ i) (c i) a b) ∧
 (∀ ρ c i g a b, inT ρ c (.bsl i g a b) = .bsl (ρ i) (c i) a b) ∧
 (∀ ρ c i g a b, inB ρ c (.cut i g a b) = .cut (ρ i) (c i) a b) ∧
 (∀ ρ c i g a b, inD ρ c (.cut i g a b) = .cut (ρ i) (c i) a b) ∧
 (∀ ρ c i g a b, inC ρ c (.cut i g a b) = .cut (ρ i) (c i) a b) ∧
 (∀ ρ c i g a b, inA ρ c (.cut i g a b) = .cut (ρ i) (c i) a b) ∧
 (∀ ρ c i g a b, inT ρ c (.cut i g a b) = .cut (ρ i) (c i) a b) ∧
 (∀ ρ c i g a, inB ρ c (.ptr i g a) = .ptr (ρ i) (c i) a) ∧
 (∀ ρ c i g a, inD ρ c (.ptr i g a) = .ptr (ρ i) (c i) a) ∧
 (∀ ρ c i g a, inC ρ c (.ptr i g a) = .ptr (ρ i) (c i) a) ∧
 (∀ ρ c i g a, inA ρ c (.ptr i g a) = .ptr (ρ i) (c i) a) ∧
 (∀ ρ c i g a, inT ρ c (.ptr i g a) = .ptr (ρ i) (c i) a) ∧
 (∀ ρ c i g a b, inB ρ c (.elt i g a b) = .elt (ρ i) (c i) a b) ∧
 (∀ ρ c i g a b, inD ρ c (.elt i g a b) = .elt (ρ i) (c i) a b) ∧
 (∀ ρ c i g a b, inC ρ c (.elt i g a b) = .elt (ρ i) (c i) a b) ∧
 (∀ ρ c i g a b, inA ρ c (.elt i g a b) = .elt (ρ i) (c i) a b) ∧
 (∀ ρ c i g a b, inT ρ c (.elt i g a b) = .elt (ρ i) (c i) a b) ∧
 (∀ ρ c cs, inB ρ c (.iel cs) = .iel cs) ∧
 (∀ ρ c cs, inD ρ c (.iel cs) = .iel cs) ∧
 (∀ ρ c cs, inC ρ c (.iel cs) = .iel cs) ∧
 (∀ ρ c cs, inA ρ c (.iel cs) = .iel cs) ∧
 (∀ ρ c cs, inT ρ c (.iel cs) = .iel cs) ∧
 (∀ ρ c cs, inB ρ c (.agg cs) = .agg cs) ∧
 (∀ ρ c cs, inD ρ c (.agg cs) = .agg (cs.map (inB ρ c))) ∧
 (∀ ρ c cs, inC ρ c (.agg cs) = .agg cs) ∧
 (∀ ρ c cs, inA ρ c (.agg cs) = .agg (cs.map (inC ρ c))) ∧
 (∀ ρ c cs, inT ρ c (.agg cs) = .agg (cs.map (inC ρ c))) ∧
 (∀ ρ c cs, inB ρ c (.tup cs) = .tup cs) ∧
 (∀ ρ c cs, inD ρ c (.tup cs) = .tup cs) ∧
 (∀ ρ c cs, inC ρ c (.tup cs) = .tup cs) ∧
 (∀ ρ c cs, inA ρ c (.tup cs) = .tup cs) ∧
 (∀ ρ c cs, inT ρ c (.tup cs) = .tup (cs.map (inA ρ c))) ∧
 (∀ ρ c f a b, inB ρ c (.fn f a b) = .fn f a b) ∧
 (∀ ρ c f a b, inD ρ c (.fn f a b) = .fn f a b) ∧
 (∀ ρ c f a b, inC ρ c (.fn f a b) = .fn f (a.map (inB ρ c)) (b.map (inB ρ c))) ∧
 (∀ ρ c f a b, inA ρ c (.fn f a b) = .fn f (a.map (inB ρ c)) (b.map (inB ρ c))) ∧
 (∀ ρ c f a b, inT ρ c (.fn f a b) = .fn f (a.map (inB ρ c)) (b.map (inB ρ c))) ∧
 (∀ ρ c t a, inB ρ c (.ifc t a) = .ifc t a) ∧
 (∀ ρ c t a, inD ρ c (.ifc t a) = .ifc t a) ∧
 (∀ ρ c t a, inC ρ c (.ifc t a) = .ifc t (inD ρ c a)) ∧
 (∀ ρ c t a, inA ρ c (.ifc t a) = .ifc t (inD ρ c a)) ∧
 (∀ ρ c t a, inT ρ c (.ifc t a) = .ifc t (inD ρ c a)) ∧
 (∀ ρ c i g, inB ρ c (.mp i g) = .mp (ρ i) (c i)) ∧
 (∀ ρ c i g, inD ρ c (.mp i g) = .mp (ρ i) (c i)) ∧
 (∀ ρ c i g, inC ρ c (.mp i g) = .mp (ρ i) (c i)) ∧
 (∀ ρ c i g, inA ρ c (.mp i g) = .mp (ρ i) (c i)) ∧
 (∀ ρ c i g, inT ρ c (.mp i g) = .mp (ρ i) (c i)) ∧
 (∀ ρ c, inE ρ c (.dead) = .dead) ∧
 (∀ ρ c ty cs, inE ρ c (.box ty cs) = .box ty (cs.map (inC ρ c))) ∧
 (∀ ρ c ty sz xs, inE ρ c (.row ty sz xs) = .row ty sz xs) ∧
 (∀ ρ c es, inE ρ c (.map es) = .map es) ∧
 (∀ ρ c ty lty xs, inE ρ c (.chn ty lty xs) = .chn ty lty xs) ∧
 (∀ ρ c l, inE ρ c (.blk l) = .blk l) := by
 refine ⟨?_, ?_, ?_, ?_, ?_, ?_, ?_, ?_, ?_, ?_, ?_, ?_, ?_, ?_, ?_, ?_, ?_, ?_, ?_, ?_, ?_, ?_, ?_, ?_, ?_, ?_, ?_, ?_, ?_, ?_, ?_, ?_, ?_, ?_, ?_, ?_, ?_, ?_, ?_, ?_, ?_, ?_, ?_, ?_, ?_, ?_, ?_, ?_, ?_, ?_, ?_, ?_, ?_, ?_, ?_, ?_, ?_, ?_, ?_, ?_, ?_, ?_, ?_, ?_, ?_, ?_, ?_, ?_, ?_, ?_, ?_, ?_, ?_, ?_, ?_, ?_, ?_⟩ <;> intros <;> rfl
end
section
def b8p : List Int → List Int → Bool
 | a :: az, b :: bs => if a < b then true else if b < a then false else b8p az bs
 | _, _ => false
theorem a6n (a b : Int) (az bs : List Int) : b8p (a :: az) (b :: bs) = if a < b then true else if b < a then false else b8p az bs := rfl
theorem c4b : ∀ az, b8p az az = false
 | [] => rfl
 | a :: az => by rw [a6n, if_neg (by omega), if_neg (by omega)]; exact c4b az
theorem b7n : ∀ az bs cs, b8p az bs = true → b8p bs cs = true → b8p az cs = true
 | [], _, _, h, _ => by simp [b8p] at h
 | _ :: _, [], _, h, _ => by simp [b8p] at h
 | _ :: _, _ :: _, [], _, h => by simp [b8p] at h
 | a :: az, b :: bs, c :: cs, h, k => by
  rw [a6n] at *
  by_cases h1 : a < b <;> by_cases h2 : b < a <;> by_cases h3 : b < c <;> by_cases h4 : c < b <;> simp only [h1, h2, h3, h4, if_true, if_false] at h k <;> first | omega | (cases h; done) | (cases k; done) | (rw [if_pos (by omega)]; done) | (rw [if_neg (by omega), if_neg (by omega)]; exact b7n _ _ _ h k)
theorem c4d : ∀ az bs : List Int, az.length = bs.length → az ≠ bs → b8p az bs = true ∨ b8p bs az = true
 | [], [], _, h => absurd rfl h
 | [], _ :: _, h, _ => by simp at h
 | _ :: _, [], h, _ => by simp at h
 | a :: az, b :: bs, hl, hne => by
  rw [a6n, a6n]
  by_cases h1 : a < b
  ·exact .inl (if_pos h1)
  ·by_cases h2 : b < a
   ·exact .inr (if_pos h2)
   ·have e : a = b := by omega
    subst e
    rw [if_neg h1, if_neg h1, if_neg h1, if_neg h1]
    exact c4d az bs (by simpa using hl) (fun e => hne (by rw [e]))
structure STO {α : Type} (lt : α → α → Bool) : Prop where
 irr : ∀ a, lt a a = false
 trans : ∀ a b c, lt a b = true → lt b c = true → lt a c = true
 tot : ∀ a b, a ≠ b → lt a b = true ∨ lt b a = true
theorem STO.asymm {α : Type} {lt : α → α → Bool} (O : STO lt) {a b : α} (h : lt a b = true) : lt b a = false := by
 cases hb : lt b a
 ·rfl
 ·have := O.trans _ _ _ h hb; rw [O.irr] at this; cases this
theorem STO.eq {α : Type} {lt : α → α → Bool} (O : STO lt) {a b : α} (h : lt a b = false) (k : lt b a = false) : a = b := by
 apply Classical.byContradiction
 intro hne
 rcases O.tot a b hne with h1 | h1
 ·rw [h] at h1; cases h1
 ·rw [k] at h1; cases h1
theorem STO.ntrans {α : Type} {lt : α → α → Bool} (O : STO lt) {a b c : α} (h : lt b a = false) (k : lt c b = false) : lt c a = false := by
 cases hc : lt c a
 ·rfl
 ·by_cases e : a = b
  ·subst e; rw [hc] at k; cases k
  ·rcases O.tot a b e with h1 | h1
   ·rw [O.trans _ _ _ hc h1] at k; cases k
   ·rw [h] at h1; cases h1
theorem STO.lt_of {α : Type} {lt : α → α → Bool} (O : STO lt) {a b : α} (h : lt b a = false) (hne : a ≠ b) : lt a b = true := by
 rcases O.tot a b hne with h1 | h1
 ·exact h1
 ·rw [h] at h1; cases h1
section
variable {α : Type} {lt : α → α → Bool}

def SS (lt : α → α → Bool) (l : List α) : Prop := l.Pairwise (fun a b => lt a b = true)

def WS (lt : α → α → Bool) (l : List α) : Prop := l.Pairwise (fun a b => lt b a = false)
theorem SS.uniq (O : STO lt) : ∀ {l l' : List α}, SS lt l → SS lt l' → (∀ x, x ∈ l ↔ x ∈ l') → l = l'
 | [], [], _, _, _ => rfl
 | [], b :: bs, _, _, h => absurd ((h b).2 (by simp)) (by simp)
 | a :: az, [], _, _, h => absurd ((h a).1 (by simp)) (by simp)
 | a :: az, b :: bs, h1, h2, h => by
  obtain ⟨h3, h4⟩ := List.pairwise_cons.1 h1
  obtain ⟨h5, h6⟩ := List.pairwise_cons.1 h2
  have e : a = b := by
   have hab := (h a).1 (by simp)
   have hba := (h b).2 (by simp)
   rcases List.mem_cons.1 hab with e | hm
   ·exact e
   ·rcases List.mem_cons.1 hba with e | hm'
    ·exact e.symm
    ·have := O.trans _ _ _ (h3 b hm') (h5 a hm); rw [O.irr] at this; cases this
  subst e
  rw [SS.uniq O h4 h6 (fun x => ?_)]
  have hx := h x
  simp only [List.mem_cons] at hx
  constructor
  ·intro hm
   rcases hx.1 (.inr hm) with e | e
   ·subst e; have := h3 x hm; rw [O.irr] at this; cases this
   ·exact e
  ·intro hm
   rcases hx.2 (.inr hm) with e | e
   ·subst e; have := h5 x hm; rw [O.irr] at this; cases this
   ·exact e
theorem WS.uniq (O : STO lt) : ∀ {l l' : List α}, WS lt l → WS lt l' → l.Perm l' → l = l'
 | [], l', _, _, h => (List.nil_perm.1 h).symm ▸ rfl
 | a :: az, [], _, _, h => absurd h.symm (by simp)
 | a :: az, b :: bs, h1, h2, h => by
  obtain ⟨h3, h4⟩ := List.pairwise_cons.1 h1
  obtain ⟨h5, h6⟩ := List.pairwise_cons.1 h2
  have e : a = b := by
   have hab : a ∈ b :: bs := h.mem_iff.1 (by simp)
   have hba : b ∈ a :: az := h.mem_iff.2 (by simp)
   rcases List.mem_cons.1 hab with e | hm
   ·exact e
   ·rcases List.mem_cons.1 hba with e | hm'
    ·exact e.symm
    ·exact O.eq (h5 a hm) (h3 b hm')
  subst e
  rw [WS.uniq O h4 h6 ((List.perm_cons a).1 h)]
theorem SS.ws (O : STO lt) {l : List α} (h : SS lt l) : WS lt l := List.Pairwise.imp (fun h => O.asymm h) h

def c0w [DecidableEq α] (lt : α → α → Bool) (x : α) : List α → List α
 | [] => [x]
 | y :: r => if x = y then y :: r else if lt x y then x :: y :: r else y :: c0w lt x r
def d3a [DecidableEq α] (lt : α → α → Bool) (l : List α) : List α := l.foldl (fun acc x => c0w lt x acc) []
theorem b3t [DecidableEq α] (x z : α) : ∀ l : List α, z ∈ c0w lt x l ↔ z = x ∨ z ∈ l
 | [] => by simp [c0w]
 | y :: r => by
  unfold c0w
  by_cases e : x = y
  ·subst e; rw [if_pos rfl]; simp only [List.mem_cons]; constructor
   ·exact .inr
   ·rintro (h | h | h)
    ·exact .inl h
    ·exact .inl h
    ·exact .inr h
  ·rw [if_neg e]
   by_cases h : lt x y = true
   ·rw [if_pos h]; simp
   ·rw [if_neg h]; simp only [List.mem_cons, b3t x z r]; constructor
    ·rintro (h | h | h)
     ·exact .inr (.inl h)
     ·exact .inl h
     ·exact .inr (.inr h)
    ·rintro (h | h | h)
     ·exact .inr (.inl h)
     ·exact .inl h
     ·exact .inr (.inr h)
theorem c2r [DecidableEq α] (O : STO lt) (x : α) : ∀ l : List α, SS lt l → SS lt (c0w lt x l)
 | [], _ => by simp [c0w, SS]
 | y :: r, h => by
  unfold c0w
  obtain ⟨h1, h2⟩ := List.pairwise_cons.1 h
  by_cases e : x = y
  ·rw [if_pos e]; exact h
  ·rw [if_neg e]
   by_cases hx : lt x y = true
   ·rw [if_pos hx]
    refine List.pairwise_cons.2 ⟨fun z hz => ?_, h⟩
    rcases List.mem_cons.1 hz with rfl | hz
    ·exact hx
    ·exact O.trans _ _ _ hx (h1 z hz)
   ·rw [if_neg hx]
    refine List.pairwise_cons.2 ⟨fun z hz => ?_, c2r O x r h2⟩
    rcases (b3t x z r).1 hz with rfl | hz
    ·exact O.lt_of (by simpa using hx) (Ne.symm e)
    ·exact h1 z hz
theorem b1c [DecidableEq α] (O : STO lt) : ∀ (l acc : List α), SS lt acc → SS lt (l.foldl (fun acc x => c0w lt x acc) acc)
 | [], _, h => h
 | x :: l, acc, h => b1c O l _ (c2r O x acc h)
theorem a9d [DecidableEq α] (z : α) : ∀ (l acc : List α), z ∈ l.foldl (fun acc x => c0w lt x acc) acc ↔ z ∈ acc ∨ z ∈ l
 | [], acc => by simp
 | x :: l, acc => by
  rw [List.foldl_cons, a9d z l, b3t]
  simp only [List.mem_cons]
  constructor
  ·rintro ((h | h) | h)
   ·exact .inr (.inl h)
   ·exact .inl h
   ·exact .inr (.inr h)
  ·rintro (h | h | h)
   ·exact .inl (.inr h)
   ·exact .inl (.inl h)
   ·exact .inr h
theorem c7w [DecidableEq α] (O : STO lt) (l : List α) : SS lt (d3a lt l) := b1c O l [] .nil
theorem c4e [DecidableEq α] (z : α) (l : List α) : z ∈ d3a lt l ↔ z ∈ l := by rw [d3a, a9d]; simp

theorem d3b [DecidableEq α] (O : STO lt) {l s : List α} (h : SS lt s) (hm : ∀ x, x ∈ s ↔ x ∈ l) : s = d3a lt l :=
 SS.uniq O h (c7w O l) (fun x => (hm x).trans (c4e x l).symm)

def d0f (lt : α → α → Bool) (x : α) : List α → List α
 | [] => [x]
 | y :: r => if lt x y then x :: y :: r else y :: d0f lt x r
def c9e (lt : α → α → Bool) (l : List α) : List α := l.foldl (fun acc x => d0f lt x acc) []
theorem b4y (x : α) : ∀ l : List α, (d0f lt x l).Perm (x :: l)
 | [] => List.Perm.refl _
 | y :: r => by
  unfold d0f
  split
  ·exact List.Perm.refl _
  ·exact ((b4y x r).cons y).trans (List.Perm.swap x y r)
theorem c7x (O : STO lt) (x : α) : ∀ l : List α, WS lt l → WS lt (d0f lt x l)
 | [], _ => by simp [d0f, WS]
 | y :: r, h => by
  unfold d0f
  obtain ⟨h1, h2⟩ := List.pairwise_cons.1 h
  split
  ·rename_i hx
   refine List.pairwise_cons.2 ⟨fun z hz => ?_, h⟩
   rcases List.mem_cons.1 hz with rfl | hz
   ·exact O.asymm hx
   ·exact O.ntrans (O.asymm hx) (h1 z hz)
  ·rename_i hx
   refine List.pairwise_cons.2 ⟨fun z hz => ?_, c7x O x r h2⟩
   rcases List.mem_cons.1 ((b4y x r).mem_iff.1 hz) with rfl | hz
   ·simpa using hx
   ·exact h1 z hz
theorem b1d (O : STO lt) : ∀ (l acc : List α), WS lt acc → WS lt (l.foldl (fun acc x => d0f lt x acc) acc)
 | [], _, h => h
 | x :: l, acc, h => b1d O l _ (c7x O x acc h)
theorem a8d : ∀ (l acc : List α), (l.foldl (fun acc x => d0f lt x acc) acc).Perm (acc ++ l)
 | [], acc => by simp
 | x :: l, acc => (a8d l _).trans (((b4y x acc).append_right l).trans (by
   have := List.perm_middle (a := x) (l₁ := acc) (l₂ := l)
   exact this.symm))
theorem c2s (O : STO lt) (l : List α) : WS lt (c9e lt l) := b1d O l [] .nil
theorem b1e (l : List α) : (c9e lt l).Perm l := a8d l []
theorem c7y (O : STO lt) {l s : List α} (h : WS lt s) (hp : s.Perm l) : s = c9e lt l := WS.uniq O h (c2s O l) (hp.trans (b1e l).symm)
theorem c5j (O : STO lt) {l l' : List α} (h : l.Perm l') : c9e lt l = c9e lt l' := c7y O (c2s O l) ((b1e l).trans h)
end
end
section
section
variable {α : Type} {lt : α → α → Bool}

def sw (l : List α) (i j : Nat) : List α := match l[i]?, l[j]? with
 | some a, some b => (l.set i b).set j a
 | _, _ => l
theorem d3c {l : List α} {i j : Nat} {a b : α} (hi : l[i]? = some a) (hj : l[j]? = some b) : sw l i j = (l.set i b).set j a := by simp [sw, hi, hj]
theorem a9e (l : List α) (i j : Nat) : (sw l i j).length = l.length := by
 unfold sw; split <;> simp
theorem d1n {l : List α} {i j : Nat} {a b : α} (hi : l[i]? = some a) (hj : l[j]? = some b) (k : Nat) : (sw l i j)[k]? = if k = j then some a else if k = i then some b else l[k]? := by
 have h1 := (List.getElem?_eq_some_iff.1 hi).1
 have h2 := (List.getElem?_eq_some_iff.1 hj).1
 rw [d3c hi hj, List.getElem?_set, List.getElem?_set]
 by_cases e : k = j
 ·subst e; simp [h2]
 ·rw [if_neg (Ne.symm e), if_neg e]
  by_cases e2 : k = i
  ·subst e2; simp [h1]
  ·rw [if_neg (Ne.symm e2), if_neg e2]
theorem c7z (l : List α) (i j : Nat) : (sw l i j).Perm l := by
 unfold sw
 split
 ·rename_i a b hi hj
  obtain ⟨h1, e1⟩ := List.getElem?_eq_some_iff.1 hi
  obtain ⟨h2, e2⟩ := List.getElem?_eq_some_iff.1 hj
  have := Array.swap_perm (xs := l.toArray) (i := i) (j := j) (by simpa using h1) (by simpa using h2)
  have e : (l.toArray.swap i j (by simpa using h1) (by simpa using h2)).toList = (l.set i b).set j a := by
   simp [Array.swap, e1, e2]
  have := this.toList
  rw [e] at this
  simpa using this
 ·exact List.Perm.refl _
def c5k (lt : α → α → Bool) (l : List α) : Prop := ∀ i a b, 0 < i → l[i]? = some a → l[(i - 1) / 2]? = some b → lt a b = false

def a5l (lt : α → α → Bool) (l : List α) (k : Nat) : List α :=
 if h : 0 < k then match l[k]?, l[(k - 1) / 2]? with
  | some a, some b => if lt a b then a5l lt (sw l k ((k - 1) / 2)) ((k - 1) / 2) else l
  | _, _ => l
 else l
termination_by k
decreasing_by omega
theorem b4z {l : List α} {k : Nat} {a b : α} (h : 0 < k) (ha : l[k]? = some a) (hb : l[(k - 1) / 2]? = some b) (hl : lt a b = true) : a5l lt l k = a5l lt (sw l k ((k - 1) / 2)) ((k - 1) / 2) := by
 rw [a5l, dif_pos h, ha, hb]; simp [hl]
theorem b5a {l : List α} {k : Nat} {a b : α} (ha : l[k]? = some a) (hb : l[(k - 1) / 2]? = some b) (hl : lt a b = false) : a5l lt l k = l := by
 rw [a5l]; split
 ·rw [ha, hb]; simp [hl]
 ·rfl
theorem siftUp_zero {l : List α} : a5l lt l 0 = l := by rw [a5l]; simp
def HU (lt : α → α → Bool) (l : List α) (k : Nat) : Prop :=
 (∀ i a b, 0 < i → i ≠ k → l[i]? = some a → l[(i - 1) / 2]? = some b → lt a b = false) ∧
 (∀ i a b, 0 < k → 0 < i → (i - 1) / 2 = k → l[i]? = some a → l[(k - 1) / 2]? = some b → lt a b = false)
theorem c2t (O : STO lt) (k : Nat) : ∀ (l : List α), k < l.length → HU lt l k → c5k lt (a5l lt l k) ∧ (a5l lt l k).Perm l := by
 induction k using Nat.strongRecOn with
 | _ k ih =>
 intro l hk h
 by_cases h0 : 0 < k
 ·obtain ⟨a, ha⟩ : ∃ a, l[k]? = some a := ⟨_, List.getElem?_eq_getElem hk⟩
  obtain ⟨b, hb⟩ : ∃ b, l[(k - 1) / 2]? = some b := ⟨_, List.getElem?_eq_getElem (by omega)⟩
  cases hl : lt a b
  ·rw [b5a ha hb hl]
   refine ⟨fun i c d hi hc hd => ?_, List.Perm.refl _⟩
   by_cases e : i = k
   ·subst e; rw [ha] at hc; rw [hb] at hd; cases hc; cases hd; exact hl
   ·exact h.1 i c d hi e hc hd
  ·rw [b4z h0 ha hb hl]
   have hg := d1n ha hb
   have := ih ((k - 1) / 2) (by omega) (sw l k ((k - 1) / 2)) (by rw [a9e]; omega) ⟨fun i c d hi hne hc hd => ?_, fun i c d hu hi hp hc hd => ?_⟩
   ·exact ⟨this.1, this.2.trans (c7z _ _ _)⟩
   ·rw [hg, if_neg hne] at hc
    rw [hg] at hd
    by_cases e : i = k
    ·subst e
     rw [if_pos rfl] at hc
     rw [if_pos rfl] at hd
     cases hc; cases hd
     exact O.asymm hl
    ·rw [if_neg e] at hc
     by_cases e1 : (i - 1) / 2 = (k - 1) / 2
     ·rw [if_pos e1] at hd
      cases hd
      have h1 := h.1 i c b hi e hc (by rw [e1]; exact hb)
      cases hc' : lt c a
      ·rfl
      ·rw [O.trans _ _ _ hc' hl] at h1; cases h1
     ·rw [if_neg e1] at hd
      by_cases e2 : (i - 1) / 2 = k
      ·rw [if_pos e2] at hd
       cases hd
       exact h.2 i c b h0 hi e2 hc hb
      ·rw [if_neg e2] at hd
       exact h.1 i c d hi e hc hd
   ·have hd' : l[((k - 1) / 2 - 1) / 2]? = some d := by
     rw [hg, if_neg (by omega), if_neg (by omega)] at hd; exact hd
    have hbd := h.1 ((k - 1) / 2) b d hu (by omega) hb hd'
    rw [hg, if_neg (by omega)] at hc
    by_cases e : i = k
    ·rw [if_pos e] at hc; cases hc; exact hbd
    ·rw [if_neg e] at hc
     exact O.ntrans hbd (h.1 i c b hi e hc (by rw [hp]; exact hb))
 ·have : k = 0 := by omega
  subst this
  rw [siftUp_zero]
  exact ⟨fun i c d hi hc hd => h.1 i c d hi (by omega) hc hd, List.Perm.refl _⟩
def b2y (lt : α → α → Bool) (l : List α) (x : α) : List α := a5l lt (l ++ [x]) l.length
theorem c5l (O : STO lt) {l : List α} (h : c5k lt l) (x : α) : c5k lt (b2y lt l x) ∧ (b2y lt l x).Perm (l ++ [x]) := by
 refine c2t O _ _ (by simp) ⟨fun i a b hi hne ha hb => ?_, fun i a b _ hi hp ha hb => ?_⟩
 ·have hlt := (List.getElem?_eq_some_iff.1 ha).1
  simp only [List.length_append, List.length_cons, List.length_nil] at hlt
  rw [List.getElem?_append_left (by omega)] at ha
  rw [List.getElem?_append_left (by omega)] at hb
  exact h i a b hi ha hb
 ·have hlt := (List.getElem?_eq_some_iff.1 ha).1
  simp only [List.length_append, List.length_cons, List.length_nil] at hlt
  omega
theorem c5m (k : Nat) : ∀ l : List α, (a5l lt l k).length = l.length := by
 induction k using Nat.strongRecOn with
 | _ k ih =>
 intro l
 rw [a5l]
 split
 ·split
  ·split
   ·rw [ih _ (by omega), a9e]
   ·rfl
  ·rfl
 ·rfl
theorem c8a (l : List α) (x : α) : (b2y lt l x).length = l.length + 1 := by rw [b2y, c5m]; simp

def a2k (lt : α → α → Bool) (l : List α) (k : Nat) : Nat := match l[2 * k + 2]?, l[2 * k + 1]? with
 | some c, some d => if lt c d then 2 * k + 2 else 2 * k + 1
 | _, _ => 2 * k + 1
theorem a8s (l : List α) (k : Nat) : a2k lt l k = 2 * k + 1 ∨ (a2k lt l k = 2 * k + 2 ∧ 2 * k + 2 < l.length) := by
 unfold a2k
 split
 ·rename_i c d h1 h2
  split
  ·exact .inr ⟨rfl, (List.getElem?_eq_some_iff.1 h1).1⟩
  ·exact .inl rfl
 ·exact .inl rfl
theorem d3e {l : List α} {k : Nat} {c d : α} (hc : l[2 * k + 2]? = some c) (hd : l[2 * k + 1]? = some d) (h : lt c d = true) : a2k lt l k = 2 * k + 2 := by
 unfold a2k; rw [hc, hd]; simp [h]
theorem d3f {l : List α} {k : Nat} {c d : α} (hc : l[2 * k + 2]? = some c) (hd : l[2 * k + 1]? = some d) (h : lt c d = false) : a2k lt l k = 2 * k + 1 := by
 unfold a2k; rw [hc, hd]; simp [h]
theorem d3g {l : List α} {k : Nat} (h : ¬ 2 * k + 2 < l.length) : a2k lt l k = 2 * k + 1 := by
 unfold a2k; rw [List.getElem?_eq_none (by omega)]

def a0m (lt : α → α → Bool) (l : List α) (k : Nat) : List α :=
 if h : 2 * k + 1 < l.length then match l[a2k lt l k]?, l[k]? with
  | some a, some b => if lt a b then a0m lt (sw l (a2k lt l k) k) (a2k lt l k) else l
  | _, _ => l
 else l
termination_by l.length - k
decreasing_by
 rw [a9e]
 rcases a8s (lt := lt) l k with h1 | h1 <;> omega
theorem a3z {l : List α} {k : Nat} (h : ¬ 2 * k + 1 < l.length) : a0m lt l k = l := by rw [a0m, dif_neg h]
theorem b1f {l : List α} {k : Nat} {a b : α} (h : 2 * k + 1 < l.length) (ha : l[a2k lt l k]? = some a) (hb : l[k]? = some b) (hl : lt a b = true) : a0m lt l k = a0m lt (sw l (a2k lt l k) k) (a2k lt l k) := by
 rw [a0m, dif_pos h, ha, hb]; simp [hl]
theorem b1g {l : List α} {k : Nat} {a b : α} (ha : l[a2k lt l k]? = some a) (hb : l[k]? = some b) (hl : lt a b = false) : a0m lt l k = l := by
 rw [a0m]; split
 ·rw [ha, hb]; simp [hl]
 ·rfl
theorem d0g (O : STO lt) {l : List α} {k i : Nat} {c d : α} (hi : 0 < i) (hp : (i - 1) / 2 = k) (hc : l[i]? = some c) (hd : l[a2k lt l k]? = some d) : lt c d = false := by
 have hlt := (List.getElem?_eq_some_iff.1 hc).1
 unfold a2k at hd
 split at hd
 ·rename_i x y h1 h2
  split at hd
  ·rename_i hxy
   rw [h1] at hd; cases hd
   rcases (show i = 2 * k + 1 ∨ i = 2 * k + 2 by omega) with e | e
   ·subst e; rw [h2] at hc; cases hc; exact O.asymm hxy
   ·subst e; rw [h1] at hc; cases hc; exact O.irr _
  ·rename_i hxy
   rw [h2] at hd; cases hd
   rcases (show i = 2 * k + 1 ∨ i = 2 * k + 2 by omega) with e | e
   ·subst e; rw [h2] at hc; cases hc; exact O.irr _
   ·subst e; rw [h1] at hc; cases hc; simpa using hxy
 ·rename_i hno
  rcases (show i = 2 * k + 1 ∨ i = 2 * k + 2 by omega) with e | e
  ·subst e; rw [hc] at hd; cases hd; exact O.irr _
  ·subst e; exact absurd hd (fun h => hno c d hc h)
def HD (lt : α → α → Bool) (l : List α) (k : Nat) : Prop :=
 (∀ i a b, 0 < i → (i - 1) / 2 ≠ k → l[i]? = some a → l[(i - 1) / 2]? = some b → lt a b = false) ∧
 (∀ i a b, 0 < k → 0 < i → (i - 1) / 2 = k → l[i]? = some a → l[(k - 1) / 2]? = some b → lt a b = false)
theorem b8q (O : STO lt) : ∀ (n k : Nat) (l : List α), l.length - k ≤ n → HD lt l k → c5k lt (a0m lt l k) ∧ (a0m lt l k).Perm l := by
 intro n
 induction n with
 | zero =>
  intro k l hn h
  rw [a3z (by omega)]
  refine ⟨fun i c d hi hc hd => ?_, List.Perm.refl _⟩
  have := (List.getElem?_eq_some_iff.1 hc).1
  exact h.1 i c d hi (by omega) hc hd
 | succ n ih =>
  intro k l hn h
  by_cases h0 : 2 * k + 1 < l.length
  ·have hcl : a2k lt l k < l.length := by rcases a8s (lt := lt) l k with h1 | h1 <;> omega
   have hcp : (a2k lt l k - 1) / 2 = k := by rcases a8s (lt := lt) l k with h1 | h1 <;> omega
   have hc0 : 0 < a2k lt l k := by rcases a8s (lt := lt) l k with h1 | h1 <;> omega
   obtain ⟨a, ha⟩ : ∃ a, l[a2k lt l k]? = some a := ⟨_, List.getElem?_eq_getElem hcl⟩
   obtain ⟨b, hb⟩ : ∃ b, l[k]? = some b := ⟨_, List.getElem?_eq_getElem (by omega)⟩
   have hch := fun i c (hi : 0 < i) hp hc => d0g O (l := l) (k := k) (i := i) (c := c) hi hp hc ha
   cases hl : lt a b
   ·rw [b1g ha hb hl]
    refine ⟨fun i c d hi hc hd => ?_, List.Perm.refl _⟩
    by_cases e : (i - 1) / 2 = k
    ·rw [e, hb] at hd; cases hd
     exact O.ntrans hl (hch i c hi e hc)
    ·exact h.1 i c d hi e hc hd
   ·rw [b1f h0 ha hb hl]
    have hg := d1n ha hb
    generalize hm : a2k lt l k = m at *
    have := ih m (sw l m k) (by rw [a9e]; omega) ⟨fun i c d hi hne hc hd => ?_, fun i c d hm0 hi hp hc hd => ?_⟩
    ·exact ⟨this.1, this.2.trans (c7z _ _ _)⟩
    ·rw [hg] at hc hd
     by_cases e : (i - 1) / 2 = k
     ·rw [if_pos e] at hd; cases hd
      rw [if_neg (by omega)] at hc
      by_cases e1 : i = m
      ·rw [if_pos e1] at hc; cases hc; exact O.asymm hl
      ·rw [if_neg e1] at hc; exact hch i c hi e hc
     ·rw [if_neg e, if_neg hne] at hd
      by_cases e1 : i = k
      ·rw [if_pos e1] at hc; cases hc
       subst e1
       exact h.2 m a d hi hc0 hcp ha hd
      ·rw [if_neg e1] at hc
       by_cases e2 : i = m
       ·subst e2; exact absurd hcp e
       ·rw [if_neg e2] at hc
        exact h.1 i c d hi e hc hd
    ·rw [hg] at hc hd
     rw [if_neg (by omega), if_neg (by omega)] at hc
     rw [if_pos (by omega)] at hd
     cases hd
     exact h.1 i c a hi (by omega) hc (by rw [hp]; exact ha)
  ·rw [a3z h0]
   refine ⟨fun i c d hi hc hd => ?_, List.Perm.refl _⟩
   have := (List.getElem?_eq_some_iff.1 hc).1
   exact h.1 i c d hi (by omega) hc hd
theorem c0x (n k : Nat) : ∀ l : List α, l.length - k ≤ n → (a0m lt l k).length = l.length := by
 induction n generalizing k with
 | zero => intro l h; rw [a3z (by omega)]
 | succ n ih =>
  intro l h
  rw [a0m]
  split
  ·split
   ·split
    ·rw [ih _ _ (by rw [a9e]; rcases a8s (lt := lt) l k with h1 | h1 <;> omega), a9e]
    ·rfl
   ·rfl
  ·rfl

def b0a (lt : α → α → Bool) : List α → List α
 | [] => []
 | m :: r => a0m lt (((m :: r).set 0 ((m :: r).getLast (by simp))).take r.length) 0
theorem b8r (m : α) (r : List α) : (((m :: r).set 0 ((m :: r).getLast (by simp))).take r.length).Perm r := by
 rcases List.eq_nil_or_concat r with rfl | ⟨mid, x, rfl⟩
 ·simp
 ·simp only [List.set_cons_zero]
  have e : (m :: (mid.concat x)).getLast (by simp) = x := by simp [List.concat_eq_append, List.getLast_cons]
  rw [e]
  have e2 : (x :: mid.concat x).take (mid.concat x).length = x :: mid := by
   simp [List.concat_eq_append]
  rw [e2, List.concat_eq_append]
  exact (List.perm_append_comm (l₁ := [x]) (l₂ := mid))
theorem c5n (O : STO lt) {m : α} {r : List α} (h : c5k lt (m :: r)) : c5k lt (b0a lt (m :: r)) ∧ (b0a lt (m :: r)).Perm r := by
 have := b8q O _ 0 (((m :: r).set 0 ((m :: r).getLast (by simp))).take r.length) (Nat.le_refl _) ⟨fun i a b hi hne ha hb => ?_, fun i a b h0 => by omega⟩
 ·exact ⟨this.1, this.2.trans (b8r m r)⟩
 ·rw [List.getElem?_take] at ha hb
  split at ha
  ·split at hb
   ·rw [List.getElem?_set_ne (by omega)] at ha hb
    exact h i a b hi ha hb
   ·cases hb
  ·cases ha
theorem b1h : ∀ l : List α, (b0a lt l).length = l.length - 1
 | [] => rfl
 | m :: r => by
  rw [b0a, c0x _ _ _ (Nat.le_refl _)]
  simp
theorem d0h (O : STO lt) {m : α} {r : List α} (h : c5k lt (m :: r)) : ∀ (i : Nat) (a : α), (m :: r)[i]? = some a → lt a m = false := by
 intro i
 induction i using Nat.strongRecOn with
 | _ i ih =>
 intro a ha
 by_cases h0 : i = 0
 ·subst h0; simp at ha; subst ha; exact O.irr _
 ·have hlt := (List.getElem?_eq_some_iff.1 ha).1
  obtain ⟨b, hb⟩ : ∃ b, (m :: r)[(i - 1) / 2]? = some b := ⟨_, List.getElem?_eq_getElem (by omega)⟩
  exact O.ntrans (ih _ (by omega) b hb) (h i a b (by omega) ha hb)
def a4p (lt : α → α → Bool) : Nat → List α → List α
 | 0, _ => []
 | k + 1, l => match l with
  | [] => []
  | m :: r => m :: a4p lt k (b0a lt (m :: r))
theorem b5c (O : STO lt) : ∀ (k : Nat) (l : List α), l.length ≤ k → c5k lt l → WS lt (a4p lt k l) ∧ (a4p lt k l).Perm l
 | 0, l, hk, _ => by
  have : l = [] := List.length_eq_zero_iff.1 (by omega)
  subst this; exact ⟨.nil, List.Perm.refl _⟩
 | k + 1, [], _, _ => ⟨.nil, List.Perm.refl _⟩
 | k + 1, m :: r, hk, h => by
  obtain ⟨h1, h2⟩ := c5n O h
  obtain ⟨h3, h4⟩ := b5c O k (b0a lt (m :: r)) (by rw [b1h]; simpa using hk) h1
  refine ⟨List.pairwise_cons.2 ⟨fun z hz => ?_, h3⟩, (h4.trans h2).cons m⟩
  have hz' : z ∈ m :: r := List.mem_cons_of_mem _ ((h4.trans h2).mem_iff.1 hz)
  obtain ⟨i, hi⟩ := List.getElem?_of_mem hz'
  exact d0h O h i z hi
theorem c8b (O : STO lt) {l : List α} (h : c5k lt l) {k : Nat} (hk : l.length ≤ k) : a4p lt k l = c9e lt l := c7y O (b5c O k l hk h).1 (b5c O k l hk h).2

theorem b5d : ∀ (k : Nat) (l : List α), (a4p lt k l).length ≤ k
 | 0, _ => Nat.le_refl _
 | k + 1, [] => Nat.zero_le _
 | k + 1, m :: r => by simp only [a4p, List.length_cons]; have := b5d k (b0a lt (m :: r)); omega
def a8y (lt : α → α → Bool) (l : List α) : List α := l.foldl (b2y lt) []
theorem c5o (l : List α) (x : α) : a8y lt (l ++ [x]) = b2y lt (a8y lt l) x := by simp [a8y]
theorem d0i : c5k lt ([] : List α) := fun i a b _ h => by simp at h
theorem b5e (O : STO lt) : ∀ (l acc : List α), c5k lt acc → c5k lt (l.foldl (b2y lt) acc) ∧ (l.foldl (b2y lt) acc).Perm (acc ++ l)
 | [], acc, h => ⟨h, by simp⟩
 | x :: l, acc, h => by
  obtain ⟨h1, h2⟩ := c5l O h x
  obtain ⟨h3, h4⟩ := b5e O l _ h1
  refine ⟨h3, h4.trans ((h2.append_right l).trans ?_)⟩
  simp
theorem c4f (O : STO lt) (l : List α) : c5k lt (a8y lt l) ∧ (a8y lt l).Perm l := b5e O l [] d0i
theorem b1i (l : List α) : (a8y lt l).length = l.length := by
 have : ∀ (l acc : List α), (l.foldl (b2y lt) acc).length = acc.length + l.length := by
  intro l
  induction l with
  | nil => simp
  | cons x l ih => intro acc; rw [List.foldl_cons, ih, c8a]; simp; omega
 rw [a8y, this]; simp

theorem d0j (O : STO lt) (l : List α) : a4p lt l.length (a8y lt l) = c9e lt l := by
 rw [c8b O (c4f O l).1 (by rw [b1i]; exact Nat.le_refl _)]
 exact c5j O (c4f O l).2
theorem c8d [DecidableEq α] (O : STO lt) {l l' : List α} (hn : l'.Nodup) (hm : ∀ x, x ∈ l' ↔ x ∈ l) : c9e lt l' = d3a lt l := by
 refine d3b O ?_ fun x => ((b1e l').mem_iff).trans (hm x)
 have h1 := c2s O l'
 have h2 : (c9e lt l').Nodup := (b1e l').nodup_iff.2 hn
 exact (List.Pairwise.and h1 h2).imp fun {a b} h => O.lt_of h.1 h.2
end
end
section
structure Ev where
 time : Int
 to : Int
 from' : Int
 count : Int
 n : Int
 kind : Int
 arg : Int
 deriving DecidableEq, Inhabited
structure Ou where
 time : Int
 proc : Int
 count : Int
 n : Int
 value : Int
 deriving DecidableEq, Inhabited
structure St where
 x : Int
 y : Int
 count : Int
 deriving DecidableEq, Inhabited
structure Pa where
 ev : Ev
 after : St
 sends : List Ev
 outs : List Ou
 deriving DecidableEq, Inhabited
structure La where
 proc : Int
 base : St
 done : List Pa
 deriving DecidableEq, Inhabited
structure Vi where
 inc : Int
 version : Int
 events : List Ev
 deriving DecidableEq, Inhabited
structure Nd where
 id : Int
 up : Bool
 inc : Int
 g : Int
 lanes : List La
 kept : List Ev
 outs : List Ou
 led : Int
 version : Int
 views : List Vi
 known : List Int
 round : Int
 low : Int
 deriving DecidableEq, Inhabited
def evN (e : Ev) : List Int := [e.time, e.to, e.from', e.count, e.n, e.kind, e.arg]
def ouL (o : Ou) : List Int := [o.time, o.proc, o.count, o.n, o.value]
def stL (s : St) : List Int := [s.x, s.y, s.count]
theorem c8e {a b : Ev} (h : evN a = evN b) : a = b := by
 cases a; cases b; simp [evN] at h; simp [h]
def c9f : List Int → List Int → Int
 | a :: az, b :: bs => if a < b then -1 else if b < a then 1 else c9f az bs
 | [], [] => 0
 | [], _ :: _ => -1
 | _ :: _, [] => 1
theorem c0y (a b : Int) (az bs : List Int) : c9f (a :: az) (b :: bs) = if a < b then -1 else if b < a then 1 else c9f az bs := rfl
theorem b8s : ∀ az bs : List Int, az.length = bs.length → decide (c9f az bs < 0) = b8p az bs
 | [], [], _ => rfl
 | [], _ :: _, h => by simp at h
 | _ :: _, [], h => by simp at h
 | a :: az, b :: bs, h => by
  rw [c0y, a6n]
  by_cases h1 : a < b
  ·rw [if_pos h1, if_pos h1]; rfl
  ·rw [if_neg h1, if_neg h1]
   by_cases h2 : b < a
   ·rw [if_pos h2, if_pos h2]; rfl
   ·rw [if_neg h2, if_neg h2]; exact b8s az bs (by simpa using h)
theorem c0z {az bs : List Int} {i : Nat} {a b : Int} (ha : az[i]? = some a) (hb : bs[i]? = some b) : c9f (az.drop i) (bs.drop i) = if a < b then -1 else if b < a then 1 else c9f (az.drop (i + 1)) (bs.drop (i + 1)) := by
 obtain ⟨h1, e1⟩ := List.getElem?_eq_some_iff.1 ha
 obtain ⟨h2, e2⟩ := List.getElem?_eq_some_iff.1 hb
 rw [List.drop_eq_getElem_cons h1, List.drop_eq_getElem_cons h2, e1, e2, c0y]
def a1g (a b : Ev) : Bool := b8p (evN a) (evN b)
def b0c (a b : Ou) : Bool := b8p (ouL a) (ouL b)
theorem c2u : STO a1g := ⟨fun a => c4b _, fun a b c => b7n _ _ _, fun a b h => c4d _ _ rfl (fun e => h (c8e e))⟩

def r1r (l : List Ev) : List Ev := d3a a1g l
def d6y (l : List Ou) : List Ou := c9e b0c l

def q9q : List Ev → List Ev := List.foldl (fun acc e => if e ∈ acc then acc else acc ++ [e]) []
theorem b7o (x : Ev) : ∀ (l acc : List Ev), x ∈ l.foldl (fun acc e => if e ∈ acc then acc else acc ++ [e]) acc ↔ x ∈ acc ∨ x ∈ l
 | [], acc => by simp
 | e :: l, acc => by
  rw [List.foldl_cons, b7o x l]
  split
  ·rename_i h
   simp only [List.mem_cons]
   constructor
   ·rintro (h' | h')
    ·exact .inl h'
    ·exact .inr (.inr h')
   ·rintro (h' | h' | h')
    ·exact .inl h'
    ·subst h'; exact .inl h
    ·exact .inr h'
  ·simp only [List.mem_append, List.mem_cons, List.not_mem_nil, or_false, or_assoc]
theorem a7k : ∀ (l acc : List Ev), acc.Nodup → (l.foldl (fun acc e => if e ∈ acc then acc else acc ++ [e]) acc).Nodup
 | [], acc, h => h
 | e :: l, acc, h => by
  rw [List.foldl_cons]
  refine a7k l _ ?_
  split
  ·exact h
  ·rename_i hne
   exact List.nodup_append.2 ⟨h, by simp, fun a ha b hb => by
    rw [List.mem_singleton] at hb; subst hb; rintro rfl; exact hne ha⟩
theorem a0h (x : Ev) (l : List Ev) : x ∈ q9q l ↔ x ∈ l := by rw [q9q, b7o]; simp
theorem b2v (l : List Ev) : (q9q l).Nodup := a7k l [] .nil
theorem a7d (l : List Ev) (e : Ev) : q9q (l ++ [e]) = if e ∈ q9q l then q9q l else q9q l ++ [e] := by
 simp only [q9q, List.foldl_append, List.foldl_cons, List.foldl_nil]
 rfl
theorem b2f (l : List Ev) : (q9q l).length ≤ l.length := by
 have : ∀ (l acc : List Ev), (l.foldl (fun acc e => if e ∈ acc then acc else acc ++ [e]) acc).length ≤ acc.length + l.length := by
  intro l
  induction l with
  | nil => simp
  | cons e l ih =>
   intro acc
   rw [List.foldl_cons]
   refine Nat.le_trans (ih _) ?_
   split <;> simp <;> omega
 have := this l []
 simpa [q9q] using this

theorem b5f (l : List Ev) : a4p a1g (q9q l).length (a8y a1g (q9q l)) = r1r l := by
 rw [d0j c2u, c8d c2u (b2v l) (fun x => a0h x l)]; rfl
def a5m (p : Int) : Int := if 0 ≤ p ∧ p ≤ 3 then p.tmod 3 else -1
def d0k (p : Int) : Ev := if 0 ≤ p ∧ p ≤ 3 then ⟨0, p, -1, 0, p, 0, p⟩ else ⟨0, 0, 0, 0, 0, 0, 0⟩
def a0s (id : Int) : Nat → List Int
 | 0 => []
 | k + 1 => if a5m (k : Int) = id then a0s id k ++ [(k : Int)] else a0s id k
theorem a6o (id : Int) (k : Nat) : a0s id (k + 1) = if a5m (k : Int) = id then a0s id k ++ [(k : Int)] else a0s id k := rfl
theorem a4q (id : Int) : ∀ k, (a0s id k).length ≤ k
 | 0 => Nat.le_refl _
 | k + 1 => by
  have := a4q id k
  rw [a6o]; split <;> simp <;> omega
def pkx (bs : List Nat) (p : Nat) : Nat := bs.getD (p % bs.length) 0 * 131 + bs.getD ((p * 7 + 3) % bs.length) 0 * 1117 + p * 29 + p / bs.length * 53
def pk (bs : List Nat) (p n : Nat) : Nat :=
 if n = 0 ∨ bs.length = 0 then 0
 else if p < bs.length then bs.getD p 0 % n
 else (pkx bs p ^^^ pkx bs p / 64) % n
def c8f (p : Int) : La := ⟨p, ⟨0, 0, 0⟩, []⟩
def bp (l : La) : St × Int := (l.base, l.proc)
def d4u (a b : Nd) : Prop := a.id = b.id ∧ a.inc = b.inc ∧ a.g = b.g ∧ a.led = b.led ∧ a.kept = b.kept ∧ a.outs = b.outs ∧ a.lanes.map bp = b.lanes.map bp
instance (a b : Nd) : Decidable (d4u a b) := by unfold d4u; infer_instance
theorem d4v {a b r : Int} (h : ¬ (if a < b then -1 else if b < a then 1 else 0 : Int) = 0) : (if a < b then -1 else if b < a then 1 else r) = (if a < b then -1 else if b < a then 1 else 0 : Int) := by
 split
 ·rfl
 ·split
  ·rfl
  ·rename_i h1 h2; rw [if_neg h1, if_neg h2] at h; exact absurd rfl h
theorem d4w {a b r : Int} (h : (if a < b then -1 else if b < a then 1 else 0 : Int) = 0) : (if a < b then -1 else if b < a then 1 else r) = r := by
 split at h
 ·omega
 ·split at h
  ·omega
  ·rename_i h1 h2; rw [if_neg h1, if_neg h2]
def nd0 : Nd := ⟨0, false, 0, 0, [], [], [], 0, 0, [], [], 0, 0⟩
def vi0 : Vi := ⟨0, 0, []⟩
def d4x (id : Int) : Nd := if 0 ≤ id ∧ id ≤ 2 then ⟨id, true, 1, 0, (a0s id 4).map c8f, r1r ((a0s id 4).map d0k), [], 0, 1, [vi0, vi0, vi0], [0, 0, 0], 0, 41⟩ else nd0
def a6p (l : La) : La := ⟨l.proc, l.base, []⟩
def c1a (n : Nd) : Nd := ⟨n.id, n.up, n.inc, n.g, n.lanes.map a6p, n.kept, n.outs, n.led, 0, [vi0, vi0, vi0], [0, 0, 0], 0, 41⟩

def fnd (p : Int) (i : Nat) : Int := if 0 ≤ a5m p ∧ a5m p < i then 1 else 0
end
section
section
variable {α : Type} (sz : α → Nat) (mk : Nat → α → α)
def szs : List α → Nat
 | [] => 0
 | p :: r => sz p + szs r
def mks : Nat → List α → List α
 | _, [] => []
 | k, p :: r => mk k p :: mks (k + sz p) r
theorem a3o (k : Nat) (l : List α) : (mks sz mk k l).length = l.length := by
 induction l generalizing k with
 | nil => rfl
 | cons p r ih => simp [mks, ih]
theorem s3s {l : List α} {i : Nat} {p : α} (h : l[i]? = some p) : szs sz (l.take (i + 1)) = szs sz (l.take i) + sz p := by
 induction l generalizing i with
 | nil => simp at h
 | cons a r ih =>
  cases i with
  | zero => simp at h; subst h; simp [szs]
  | succ i => simp at h; simp only [List.take_succ_cons, szs, ih h]; omega
theorem c2v (l : List α) (i : Nat) : szs sz (l.take i) ≤ szs sz l := by
 induction l generalizing i with
 | nil => simp
 | cons a r ih =>
  cases i with
  | zero => simp [szs]
  | succ i => simp only [List.take_succ_cons, szs]; have := ih i; omega
theorem a1z {l : List α} {i : Nat} {p : α} (h : l[i]? = some p) : szs sz (l.take i) + sz p ≤ szs sz l := by
 rw [← s3s sz h]; exact c2v sz l (i + 1)
theorem a3p (h : ∀ p, 1 ≤ sz p) (l : List α) : l.length ≤ szs sz l := by
 induction l with
 | nil => exact Nat.zero_le _
 | cons a r ih => have := h a; simp only [szs, List.length_cons]; omega
theorem a3q {l : List α} {k i : Nat} {p : α} (h : l[i]? = some p) : (mks sz mk k l)[i]? = some (mk (k + szs sz (l.take i)) p) := by
 induction l generalizing i k with
 | nil => simp at h
 | cons a r ih =>
  cases i with
  | zero => simp at h; subst h; simp [mks, szs]
  | succ i => simp at h; simp only [mks, List.getElem?_cons_succ, ih h, List.take_succ_cons, szs]; rw [Nat.add_assoc]
end
theorem p0p {α : Type} {l : List α} {i : Nat} {e : α} (h : l[i]? = some e) : l.take (i + 1) = l.take i ++ [e] := by
 rw [List.take_add_one, h]; rfl
theorem q1q {α : Type} {l : List α} {i : Nat} {p : α} (h : l[i]? = some p) : l.drop i = p :: l.drop (i + 1) := by
 obtain ⟨hi, rfl⟩ := List.getElem?_eq_some_iff.1 h
 exact List.drop_eq_getElem_cons hi
def mEv (k : Nat) : Ev := ⟨k, (k + 1 : Nat), (k + 1 + 1 : Nat), (k + 1 + 1 + 1 : Nat), (k + 1 + 1 + 1 + 1 : Nat), (k + 1 + 1 + 1 + 1 + 1 : Nat), (k + 1 + 1 + 1 + 1 + 1 + 1 : Nat)⟩
def mOu (k : Nat) : Ou := ⟨k, (k + 1 : Nat), (k + 1 + 1 : Nat), (k + 1 + 1 + 1 : Nat), (k + 1 + 1 + 1 + 1 : Nat)⟩
def mSt (k : Nat) : St := ⟨k, (k + 1 : Nat), (k + 1 + 1 : Nat)⟩
def zI : Int → Nat := fun _ => 1
def kI : Nat → Int → Int := fun k _ => (k : Int)
def zEv : Ev → Nat := fun _ => 7
def kEv : Nat → Ev → Ev := fun k _ => mEv k
def zOu : Ou → Nat := fun _ => 5
def kOu : Nat → Ou → Ou := fun k _ => mOu k
def zPa (p : Pa) : Nat := 10 + szs zEv p.sends + szs zOu p.outs
def kPa (k : Nat) (p : Pa) : Pa := ⟨mEv k, mSt (k + 7), mks zEv kEv (k + 10) p.sends, mks zOu kOu (k + 10 + szs zEv p.sends) p.outs⟩
def zLa (l : La) : Nat := 4 + szs zPa l.done
def kLa (k : Nat) (l : La) : La := ⟨(k : Int), mSt (k + 1), mks zPa kPa (k + 4) l.done⟩
def zVi (v : Vi) : Nat := 2 + szs zEv v.events
def kVi (k : Nat) (v : Vi) : Vi := ⟨(k : Int), (k + 1 : Nat), mks zEv kEv (k + 2) v.events⟩
def zNd (n : Nd) : Nat := szs zLa n.lanes + szs zEv n.kept + szs zOu n.outs + szs zVi n.views + szs zI n.known
def kNd (k : Nat) (n : Nd) : Nd := { n with
 lanes := mks zLa kLa k n.lanes
 kept := mks zEv kEv (k + szs zLa n.lanes) n.kept
 outs := mks zOu kOu (k + szs zLa n.lanes + szs zEv n.kept) n.outs
 views := mks zVi kVi (k + szs zLa n.lanes + szs zEv n.kept + szs zOu n.outs) n.views
 known := mks zI kI (k + szs zLa n.lanes + szs zEv n.kept + szs zOu n.outs + szs zVi n.views) n.known }
end
section
def lf (left c : Nat) : Int := if c ≤ left then ((left - c : Nat) : Int) else -1
theorem a1k {left c : Nat} (h : c ≤ left) : lf left c = ((left - c : Nat) : Int) := if_pos h
theorem a2m {left c : Nat} (h : ¬ c ≤ left) : lf left c = -1 := if_neg h
theorem b2z {left c : Nat} (h : lf left c < 0) : ¬ c ≤ left := fun h2 => by rw [a1k h2] at h; omega
theorem b2g {left c : Nat} (h : ¬ lf left c < 0) : c ≤ left := Decidable.byContradiction fun h2 => h (by rw [a2m h2]; decide)
def cPa (p : Pa) : Nat := p.sends.length + p.outs.length
def b8t (l : List Pa) : Nat := l.length + szs cPa l
def cLa (l : La) : Nat := b8t l.done
def b2w (l : List La) : Nat := l.length + szs cLa l
def cVi (v : Vi) : Nat := v.events.length
def b7p (l : List Vi) : Nat := l.length + szs cVi l
def cNd (n : Nd) : Nat := b2w n.lanes + n.kept.length + n.outs.length + b7p n.views + n.known.length
end
section
def b5w (e : Ev) : Prop := (0 ≤ e.time ∧ e.time ≤ 40) ∧ (0 ≤ e.to ∧ e.to ≤ 3) ∧ (-1 ≤ e.from' ∧ e.from' ≤ 3) ∧ (0 ≤ e.count ∧ e.count ≤ 12) ∧ (0 ≤ e.n ∧ e.n ≤ 3) ∧ (0 ≤ e.kind ∧ e.kind ≤ 3) ∧ (0 ≤ e.arg ∧ e.arg ≤ 999)
instance (e : Ev) : Decidable (b5w e) := by unfold b5w; infer_instance
def b7q (s : St) : Prop := (0 ≤ s.x ∧ s.x ≤ 999) ∧ (0 ≤ s.y ∧ s.y ≤ 999) ∧ (0 ≤ s.count ∧ s.count ≤ 12)
instance (s : St) : Decidable (b7q s) := by unfold b7q; infer_instance
def c4g (o : Ou) : Prop := (0 ≤ o.time ∧ o.time ≤ 40) ∧ (0 ≤ o.proc ∧ o.proc ≤ 3) ∧ (0 ≤ o.count ∧ o.count ≤ 11) ∧ (0 ≤ o.n ∧ o.n ≤ 1) ∧ (0 ≤ o.value ∧ o.value ≤ 999)
instance (o : Ou) : Decidable (c4g o) := by unfold c4g; infer_instance
section
variable {α : Type} (ok : α → Bool) (lt : α → α → Bool)

def a6b : Option α → List α → Bool
 | _, [] => true
 | o, a :: r => ok a && (match o with
  | none => true
  | some b => lt b a) && a6b (some a) r
theorem a2x {o : Option α} {a : α} {r : List α} (h : ok a = false) : a6b ok lt o (a :: r) = false := by simp [a6b, h]
theorem b2h {b a : α} {r : List α} (h : lt b a = false) : a6b ok lt (some b) (a :: r) = false := by simp [a6b, h]
theorem a6q {b a : α} {r : List α} (h : ok a = true) (h2 : lt b a = true) : a6b ok lt (some b) (a :: r) = a6b ok lt (some a) r := by simp [a6b, h, h2]
theorem a4i {a : α} {r : List α} (h : ok a = true) : a6b ok lt none (a :: r) = a6b ok lt (some a) r := by simp [a6b, h]
end
def a7s {α : Type} (l : List α) (i : Nat) : Option α := match i with
 | 0 => none
 | i + 1 => l[i]?
def a6c {α : Type} (ok : α → Bool) (lt : α → α → Bool) (l : List α) (most : Int) : Bool := decide ((l.length : Int) ≤ most) && a6b ok lt none l
theorem a8e {α : Type} {ok : α → Bool} {lt : α → α → Bool} {l : List α} {most : Int} (h : ¬ (l.length : Int) ≤ most) : a6c ok lt l most = false := by simp [a6c, h]
theorem b5g {α : Type} {ok : α → Bool} {lt : α → α → Bool} {l : List α} {most : Int} (h : (l.length : Int) ≤ most) : a6c ok lt l most = a6b ok lt none l := by simp [a6c, h]
def okE (e : Ev) : Bool := decide (b5w e)
def okO (o : Ou) : Bool := decide (c4g o)
theorem c4h (a b : Int) (x y : List Int) : b8p (a :: x) (b :: y) = true ↔ a < b ∨ (a = b ∧ b8p x y = true) := by
 rw [a6n]
 by_cases h1 : a < b
 ·simp [h1]
 ·by_cases h2 : b < a
  ·simp [h1, h2]; omega
  ·have : a = b := by omega
   subst this; simp
def c8g (a b : Ev) : Prop := a.time < b.time ∨ (a.time = b.time ∧ (a.to < b.to ∨ (a.to = b.to ∧ (a.from' < b.from' ∨ (a.from' = b.from' ∧ (a.count < b.count ∨ (a.count = b.count ∧ (a.n < b.n ∨ (a.n = b.n ∧ (a.kind < b.kind ∨ (a.kind = b.kind ∧ a.arg < b.arg)))))))))))
instance (a b : Ev) : Decidable (c8g a b) := by unfold c8g; infer_instance
theorem a7e (a b : Ev) : a1g a b = decide (c8g a b) := by
 rw [Bool.eq_iff_iff, decide_eq_true_iff]
 simp only [a1g, evN, c4h, c8g]
 simp [b8p]
def c9g (a b : Ou) : Prop := a.time < b.time ∨ (a.time = b.time ∧ (a.proc < b.proc ∨ (a.proc = b.proc ∧ (a.count < b.count ∨ (a.count = b.count ∧ (a.n < b.n ∨ (a.n = b.n ∧ a.value < b.value)))))))
instance (a b : Ou) : Decidable (c9g a b) := by unfold c9g; infer_instance
theorem a8t (a b : Ou) : b0c a b = decide (c9g a b) := by
 rw [Bool.eq_iff_iff, decide_eq_true_iff]
 simp only [b0c, ouL, c4h, c9g]
 simp [b8p]
def b1w (proc : Int) (p : Pa) : Bool := decide (b5w p.ev) && decide (p.ev.to = proc) && decide (b7q p.after) && a6c okE a1g p.sends 2 && a6c okO b0c p.outs 2
def d1o (a b : Pa) : Bool := a1g a.ev b.ev
def a7u (l : La) : Bool := decide (0 ≤ l.proc ∧ l.proc ≤ 3) && decide (b7q l.base) && a6c (b1w l.proc) d1o l.done 100
theorem c8h {l : La} (h1 : 0 ≤ l.proc ∧ l.proc ≤ 3) (h2 : b7q l.base) (h3 : l.done.length ≤ 100) : a7u l = a6b (b1w l.proc) d1o none l.done := by
 rw [a7u, decide_eq_true h1, decide_eq_true h2, b5g (by omega)]; rfl
theorem d1p {l : La} (h : ¬ (0 ≤ l.proc ∧ l.proc ≤ 3)) : a7u l = false := by rw [a7u, decide_eq_false h]; rfl
theorem d1q {l : La} (h : ¬ b7q l.base) : a7u l = false := by rw [a7u, decide_eq_false h]; simp
theorem d1r {l : La} (h : ¬ l.done.length ≤ 100) : a7u l = false := by rw [a7u, a8e (by omega)]; simp
end
section
noncomputable def kb (p : Prop) : Bool := @decide p (Classical.propDecidable p)
theorem d1s {p : Prop} (h : p) : true = kb p := by unfold kb; exact (@decide_eq_true p (Classical.propDecidable p) h).symm
theorem a6d {p : Prop} (h : ¬ p) : false = kb p := by unfold kb; exact (@decide_eq_false p (Classical.propDecidable p) h).symm
theorem b2x {p : Prop} : kb p = true ↔ p := ⟨fun h => Classical.byContradiction (fun hn => by rw [← a6d hn] at h; cases h), fun h => (d1s h).symm⟩
theorem a5n {p : Prop} (h : kb p = false) : ¬ p := fun hp => by rw [← d1s hp] at h; cases h
theorem d4y {b : Bool} {p : Prop} (h : b = true ↔ p) : b = kb p := by
 cases b
 ·exact a6d fun hp => by have := h.2 hp; cases this
 ·exact d1s (h.1 rfl)
def a5o (n : Nd) : Prop := (0 ≤ n.id ∧ n.id ≤ 2) ∧ (1 ≤ n.inc ∧ n.inc ≤ 9999) ∧ (0 ≤ n.g ∧ n.g ≤ 41) ∧ (0 ≤ n.led ∧ n.led ≤ 9999) ∧ (0 ≤ n.version ∧ n.version ≤ 9999) ∧ (0 ≤ n.round ∧ n.round ≤ 9999) ∧ (0 ≤ n.low ∧ n.low ≤ 41)
instance (n : Nd) : Decidable (a5o n) := by unfold a5o; infer_instance
def c9h (v : Vi) : Prop := (0 ≤ v.inc ∧ v.inc ≤ 9999) ∧ (0 ≤ v.version ∧ v.version ≤ 9999) ∧ a6c okE a1g v.events 100 = true
def d0l (n : Nd) : Prop := ∀ (i : Nat) v k, n.views[i]? = some v → n.known[i]? = some k → c9h v ∧ 0 ≤ k ∧ k ≤ 41
def a5t (n : Nd) : Prop := n.views.length = 3 ∧ n.known.length = 3 ∧ (0 ≤ n.version ∧ n.version ≤ 9999) ∧ (0 ≤ n.round ∧ n.round ≤ 9999) ∧ (0 ≤ n.low ∧ n.low ≤ 41) ∧ d0l n
def d0m (n : Nd) : Prop := ∀ (i : Nat) l, n.lanes[i]? = some l → (a0s n.id 4)[i]? = some l.proc ∧ a7u l = true
def a3r (n : Nd) : Prop := a5o n ∧ a6c okE a1g n.kept 100 = true ∧ a6c okO b0c n.outs 96 = true ∧ (∀ (i : Nat) o, n.outs[i]? = some o → o.time < n.g) ∧ n.lanes.length = (a0s n.id 4).length ∧ n.views.length = 3 ∧ n.known.length = 3 ∧ d0m n ∧ d0l n

def c5t {α : Type} (l : List α) (p : Nat → α → Prop) (i : Nat) : Prop := ∀ (j : Nat) a, j < i → l[j]? = some a → p j a
theorem a3g {α : Type} {l : List α} {p : Nat → α → Prop} : c5t l p 0 := fun j a h => absurd h (Nat.not_lt_zero j)
theorem a3h {α : Type} {l : List α} {p : Nat → α → Prop} {i : Nat} {a : α} (h : c5t l p i) (ha : l[i]? = some a) (hp : p i a) : c5t l p (i + 1) := fun j b hj hb => by
 by_cases e : j = i
 ·subst e; rw [ha] at hb; cases hb; exact hp
 ·exact h j b (by omega) hb
theorem a5p {α : Type} {l : List α} {p : Nat → α → Prop} {i : Nat} (h : c5t l p i) (hi : l.length ≤ i) : ∀ (j : Nat) a, l[j]? = some a → p j a := fun j a ha => h j a (by have := (List.getElem?_eq_some_iff.1 ha).1; omega) ha
end
section
def b0d (l : La) : List Ev := l.done.flatMap Pa.sends
def a2b (n : Nd) : List Ev := n.kept ++ n.lanes.flatMap b0d
def b2i (n : Nd) (j : Nat) : List Ev := if (j : Int) = n.id then [] else (n.views.getD j vi0).events
def s7s (n : Nd) (i : Nat) : List Ev := (List.range i).flatMap (b2i n)
def a4r (proc g : Int) (e : Ev) : Bool := decide (e.to = proc ∧ g ≤ e.time)
def s9s (n : Nd) (proc : Int) : List Ev := r1r ((a2b n ++ s7s n 3).filter (a4r proc n.g))
theorem b1j {α β : Type} {f : α → List β} {l : List α} {i : Nat} {p : α} (h : l[i]? = some p) : (l.take (i + 1)).flatMap f = (l.take i).flatMap f ++ f p := by
 rw [List.take_add_one, h]; simp
theorem c1b {α β : Type} {f : α → List β} {l : List α} {i : Nat} {p : α} (h : l[i]? = some p) : ((l.take i).flatMap f).length + (f p).length ≤ (l.flatMap f).length := by
 have e : l = l.take i ++ p :: l.drop (i + 1) := by
  rw [← q1q h, List.take_append_drop]
 conv => rhs; rw [e]
 simp only [List.flatMap_append, List.flatMap_cons, List.length_append]; omega
theorem c1d {n : Nd} {i j : Nat} {p : La} {q : Pa} (hp : n.lanes[i]? = some p) (hq : p.done[j]? = some q) : (n.kept ++ (n.lanes.take i).flatMap b0d ++ (p.done.take j).flatMap Pa.sends ++ q.sends).length ≤ (a2b n).length := by
 have h1 := c1b (f := b0d) hp
 have h2 := c1b (f := Pa.sends) hq
 have h3 : (b0d p).length = (p.done.flatMap Pa.sends).length := rfl
 simp only [a2b, List.length_append] at *
 omega
theorem a0n (n : Nd) (i : Nat) : s7s n (i + 1) = s7s n i ++ b2i n i := by simp [s7s, List.range_succ]
theorem c1e (n : Nd) {i : Nat} (h : i ≤ 3) : (s7s n i).length ≤ (s7s n 3).length := by
 have : i = 0 ∨ i = 1 ∨ i = 2 ∨ i = 3 := by omega
 have h0 : s7s n 0 = [] := rfl
 have h1 := a0n n 0
 have h2 := a0n n 1
 have h3 := a0n n 2
 rcases this with rfl | rfl | rfl | rfl <;> simp only [h3, h2, h1, h0, List.length_append, List.length_nil] <;> omega
theorem a4s {α : Type} {p : α → Bool} {l : List α} {i : Nat} {a : α} (h : l[i]? = some a) : (l.take (i + 1)).filter p = (l.take i).filter p ++ if p a then [a] else [] := by
 rw [List.take_add_one, h, List.filter_append]
 cases hp : p a <;> simp [hp]
end
section
def same : List Pa → List Ev → Nat
 | p :: r, e :: s => if p.ev = e then same r s + 1 else 0
 | _, _ => 0
theorem c1f {l : List Pa} {s : List Ev} {i : Nat} {p : Pa} {e : Ev} (hp : l[i]? = some p) (he : s[i]? = some e) (h : p.ev = e) : same (l.drop i) (s.drop i) = same (l.drop (i + 1)) (s.drop (i + 1)) + 1 := by
 rw [q1q hp, q1q he, same, if_pos h]
theorem c1g {l : List Pa} {s : List Ev} {i : Nat} {p : Pa} {e : Ev} (hp : l[i]? = some p) (he : s[i]? = some e) (h : ¬ p.ev = e) : same (l.drop i) (s.drop i) = 0 := by
 rw [q1q hp, q1q he, same, if_neg h]
theorem c1h {l : List Pa} {s : List Ev} {i : Nat} (h : l.length ≤ i) : same (l.drop i) (s.drop i) = 0 := by
 rw [List.drop_of_length_le h]; rfl
theorem c1i {l : List Pa} {s : List Ev} {i : Nat} (h : s.length ≤ i) : same (l.drop i) (s.drop i) = 0 := by
 rw [List.drop_of_length_le h]; cases l.drop i <;> rfl
section
variable {α : Type} [DecidableEq α] {lt : α → α → Bool}
theorem b7r (O : STO lt) {x : α} : ∀ {a b : List α}, (∀ y ∈ a, lt y x = true) → (∀ y ∈ b, lt x y = true) → c0w lt x (a ++ b) = a ++ x :: b
 | [], [], _, _ => rfl
 | [], y :: b, _, hb => by
  have h := hb y (List.mem_cons_self ..)
  have hne : x ≠ y := fun e => by subst e; rw [O.irr] at h; cases h
  simp only [List.nil_append, c0w, if_neg hne, h, if_true]
 | y :: a, b, ha, hb => by
  have h := ha y (List.mem_cons_self ..)
  have hne : x ≠ y := fun e => by subst e; rw [O.irr] at h; cases h
  have hn : lt x y = false := O.asymm h
  simp only [List.cons_append, c0w, if_neg hne, hn, Bool.false_eq_true, if_false]
  rw [b7r O (fun z hz => ha z (List.mem_cons_of_mem _ hz)) hb]
theorem d3h (O : STO lt) {x : α} {o : List α} (h : SS lt o) (hx : x ∈ o) : c0w lt x o = o :=
 SS.uniq O (c2r O x o h) h fun z => by rw [b3t]; exact ⟨fun q => q.elim (fun e => e ▸ hx) id, .inr⟩

theorem c8i (O : STO lt) {x : α} {o : List α} {k : Nat} (h : SS lt o) (hk : ∀ (j : Nat) y, k ≤ j → o[j]? = some y → lt x y = true) (hl : ∀ y, 0 < k → o[k - 1]? = some y → lt x y = false ∧ y ≠ x) (hk2 : k ≤ o.length) : c0w lt x o = o.take k ++ x :: o.drop k := by
 conv => lhs; rw [← List.take_append_drop k o]
 refine b7r O (fun y hy => ?_) (fun y hy => ?_)
 ·obtain ⟨j, hj⟩ := List.getElem?_of_mem hy
  rw [List.getElem?_take] at hj
  split at hj
  ·rename_i hjk
   have hkl : k - 1 < o.length := by omega
   obtain ⟨z, hz⟩ : ∃ z, o[k - 1]? = some z := ⟨_, List.getElem?_eq_getElem hkl⟩
   obtain ⟨q1, q2⟩ := hl z (by omega) hz
   have hzx : lt z x = true := by
    rcases O.tot _ _ q2 with h1 | h1
    ·exact h1
    ·rw [h1] at q1; cases q1
   by_cases e : j = k - 1
   ·subst e; rw [hj] at hz; cases hz; exact hzx
   ·have hlt : lt y z = true := by
     obtain ⟨p1, rfl⟩ := List.getElem?_eq_some_iff.1 hj
     obtain ⟨p2, rfl⟩ := List.getElem?_eq_some_iff.1 hz
     exact List.pairwise_iff_getElem.1 h j (k - 1) p1 p2 (by omega)
    exact O.trans _ _ _ hlt hzx
  ·cases hj
 ·obtain ⟨j, hj⟩ := List.getElem?_of_mem hy
  rw [List.getElem?_drop] at hj
  exact hk (k + j) y (by omega) hj
end
theorem c2w (l : List Ev) (x : Ev) : r1r (l ++ [x]) = c0w a1g x (r1r l) := by simp [r1r, d3a]
theorem b0e {l : List Ev} {i : Nat} {x : Ev} (h : l[i]? = some x) : r1r (l.take (i + 1)) = c0w a1g x (r1r (l.take i)) := by rw [p0p h, c2w]
theorem c1j (l : List Ev) : SS a1g (r1r l) := c7w c2u l
theorem c8j (l : List Ev) : (r1r l).length ≤ l.length := by
 have := (b5f l)
 rw [← this]
 exact Nat.le_trans (b5d _ _) (b2f l)
section
variable {α : Type} {o : List α} {n : Nat} {w x z : α}
theorem c1k (hn : n ≤ o.length) : (o.take n).length = n := by rw [List.length_take]; omega
theorem c4i (hn : n ≤ o.length) (h0 : 0 < n) (hz : o[n - 1]? = some z) : (o.take n ++ w :: o.drop n)[n - 1]? = some z := by
 rw [List.getElem?_append_left (by rw [c1k hn]; omega), List.getElem?_take, if_pos (by omega), hz]
theorem c1l (hn : n ≤ o.length) : (o.take n ++ w :: o.drop n)[n]? = some w := by
 rw [List.getElem?_append_right (by rw [c1k hn]; exact Nat.le_refl _), c1k hn, Nat.sub_self]; rfl
theorem c8k (hn : n ≤ o.length) : (o.take n ++ w :: o.drop n).set n x = o.take n ++ x :: o.drop n := by
 rw [List.set_append_right _ _ (by rw [c1k hn]; exact Nat.le_refl _), c1k hn, Nat.sub_self, List.set_cons_zero]
theorem d1t (hn : n ≤ o.length) (h0 : 0 < n) (hz : o[n - 1]? = some z) : (o.take n ++ w :: o.drop n).set n z = o.take (n - 1) ++ z :: o.drop (n - 1) := by
 rw [c8k hn]
 have e1 : o.take n = o.take (n - 1) ++ [z] := by
  have := p0p hz
  rwa [show n - 1 + 1 = n from by omega] at this
 have e2 : o.drop (n - 1) = z :: o.drop n := by
  have := q1q hz
  rwa [show n - 1 + 1 = n from by omega] at this
 rw [e1, e2]; simp
end
end
section
section
variable {α : Type} {ok : α → Bool} {lt : α → α → Bool}
theorem c4j : ∀ {l : List α} {o : Option α}, a6b ok lt o l = true → ∀ p ∈ l, ok p = true
 | [], _, _, p, hp => by cases hp
 | a :: r, o, h, p, hp => by
  simp only [a6b, Bool.and_eq_true] at h
  rcases List.mem_cons.1 hp with rfl | hp
  ·exact h.1.1
  ·exact c4j h.2 p hp
theorem a1d {l : List α} {most : Int} (h : a6c ok lt l most = true) : (l.length : Int) ≤ most ∧ ∀ p ∈ l, ok p = true := by
 simp only [a6c, Bool.and_eq_true, decide_eq_true_eq] at h
 exact ⟨h.1, c4j h.2⟩
end
theorem a8u {α β : Type} {f : α → List β} {k : Nat} : ∀ {l : List α}, (∀ a ∈ l, (f a).length ≤ k) → (l.flatMap f).length ≤ l.length * k
 | [], _ => by simp
 | a :: r, h => by
  have h1 := h a (List.mem_cons_self ..)
  have h2 := a8u (f := f) (k := k) (l := r) fun b hb => h b (List.mem_cons_of_mem _ hb)
  simp only [List.flatMap_cons, List.length_append, List.length_cons, Nat.add_mul, Nat.one_mul]
  omega
theorem a6r {l : La} (h : a7u l = true) : l.done.length ≤ 100 ∧ ∀ p ∈ l.done, p.sends.length ≤ 2 ∧ p.outs.length ≤ 2 := by
 simp only [a7u, Bool.and_eq_true] at h
 obtain ⟨h1, h2⟩ := a1d h.2
 refine ⟨by omega, fun p hp => ?_⟩
 have := h2 p hp
 simp only [b1w, Bool.and_eq_true] at this
 have a := (a1d this.1.2).1
 have b := (a1d this.2).1
 omega
theorem d0n {l : La} (h : a7u l = true) : (b0d l).length ≤ 200 := by
 obtain ⟨h1, h2⟩ := a6r h
 have := a8u (f := Pa.sends) (k := 2) (l := l.done) fun p hp => (h2 p hp).1
 simp only [b0d]; omega
theorem c2x {n : Nd} (hk : a6c okE a1g n.kept 100 = true) (hl : n.lanes.length ≤ 4) (ho : d0m n) : (a2b n).length ≤ 900 := by
 have h1 := (a1d hk).1
 have := a8u (f := b0d) (k := 200) (l := n.lanes) fun l hm => by
  obtain ⟨i, hi⟩ := List.getElem?_of_mem hm
  exact d0n (ho i l hi).2
 simp only [a2b, List.length_append]; omega
theorem b8u {n : Nd} (h3 : n.views.length = 3) (hk : n.known.length = 3) (hv : d0l n) : (s7s n 3).length ≤ 300 := by
 have := a8u (f := b2i n) (k := 100) (l := List.range 3) fun j hj => by
  rw [List.mem_range] at hj
  unfold b2i
  split
  ·simp
  ·obtain ⟨v, hv1⟩ : ∃ v, n.views[j]? = some v := ⟨_, List.getElem?_eq_getElem (by omega)⟩
   obtain ⟨k, hk1⟩ : ∃ k, n.known[j]? = some k := ⟨_, List.getElem?_eq_getElem (by omega)⟩
   have := (a1d (hv j v k hv1 hk1).1.2.2).1
   rw [List.getD_eq_getElem?_getD, hv1]
   simp only [Option.getD_some]; omega
 simpa [s7s] using this
def a1t (n : Nd) : Prop := a3r n ∧ ∀ (i : Nat) p l, (a0s n.id 4)[i]? = some p → n.lanes[i]? = some l → l.done.length ≤ same l.done (s9s n p) ∧ (s9s n p).length ≤ 100

theorem b5h : ∀ {l : List Ou} {o : Option Ou}, a6b okO b0c o l = true → ∀ (i j : Nat) a b, i ≤ j → l[i]? = some a → l[j]? = some b → a.time ≤ b.time
 | [], _, _, i, j, a, b, _, h, _ => by simp at h
 | x :: r, o, h, i, j, a, b, hij, ha, hb => by
  simp only [a6b, Bool.and_eq_true] at h
  have step : ∀ {r : List Ou} {x : Ou}, a6b okO b0c (some x) r = true → ∀ y, r[0]? = some y → x.time ≤ y.time := fun {r x} h y hy => by
   cases r with
   | nil => simp at hy
   | cons z r =>
    simp only [List.getElem?_cons_zero, Option.some.injEq] at hy
    subst hy
    simp only [a6b, Bool.and_eq_true] at h
    have := h.1.2
    rw [a8t, decide_eq_true_iff] at this
    unfold c9g at this
    omega
  cases j with
  | zero =>
   have : i = 0 := by omega
   subst this
   rw [ha] at hb; cases hb; omega
  | succ j =>
   cases i with
   | succ i => exact b5h h.2 i j a b (by omega) (by simpa using ha) (by simpa using hb)
   | zero =>
    simp only [List.getElem?_cons_zero, Option.some.injEq] at ha
    subst ha
    simp only [List.getElem?_cons_succ] at hb
    have hr : 0 < r.length := by have := (List.getElem?_eq_some_iff.1 hb).1; omega
    obtain ⟨y, hy⟩ : ∃ y, r[0]? = some y := ⟨_, List.getElem?_eq_getElem hr⟩
    have h1 := step h.2 y hy
    have h2 := b5h h.2 0 j y b (by omega) hy hb
    omega
theorem c1m {n : Nd} (ho : a6c okO b0c n.outs 96 = true) {o : Ou} (hl : n.outs[n.outs.length - 1]? = some o) (ht : o.time < n.g) : ∀ (i : Nat) a, n.outs[i]? = some a → a.time < n.g := fun i a ha => by
 have h1 := (List.getElem?_eq_some_iff.1 ha).1
 simp only [a6c, Bool.and_eq_true] at ho
 have := b5h ho.2 i (n.outs.length - 1) a o (by omega) ha hl
 omega
end
section
open Classical in
noncomputable def d5q (n : Nd) : Nd := if a1t n then { c1a n with up := false } else nd0
open Classical in
noncomputable def d5r (n : Nd) : Nd := if a1t n then (if n.up = true ∨ 9999 ≤ n.inc then n else { c1a n with up := true, inc := n.inc + 1, version := 1 }) else nd0
theorem b1k {α : Type} {sz : α → Nat} {k : Nat} : ∀ {l : List α}, (∀ a ∈ l, sz a ≤ k) → szs sz l ≤ l.length * k
 | [], _ => by simp [szs]
 | a :: r, h => by
  have h1 := h a (List.mem_cons_self ..)
  have h2 := b1k (sz := sz) (k := k) (l := r) fun b hb => h b (List.mem_cons_of_mem _ hb)
  simp only [szs, List.length_cons, Nat.add_mul, Nat.one_mul]
  omega
theorem d3i {l : List Pa} (h1 : l.length ≤ 100) (h2 : ∀ p ∈ l, p.sends.length ≤ 2 ∧ p.outs.length ≤ 2) : b8t l ≤ 500 := by
 have := b1k (sz := cPa) (k := 4) (l := l) fun p hp => by have := h2 p hp; simp only [cPa]; omega
 simp only [b8t]; omega
theorem a1l {n : Nd} (h : a3r n) : n.lanes.length ≤ 4 ∧ n.kept.length ≤ 100 ∧ n.outs.length ≤ 96 ∧ b2w n.lanes ≤ 2004 ∧ b7p n.views ≤ 303 ∧ cNd n ≤ 2606 := by
 obtain ⟨q1, q2, q3, q4, q5, q6, q7, q8, q9⟩ := h
 have hp := a4q n.id 4
 have hk := (a1d q2).1
 have ho := (a1d q3).1
 have hl : b2w n.lanes ≤ 2004 := by
  have := b1k (sz := cLa) (k := 500) (l := n.lanes) fun l hm => by
   obtain ⟨i, hi⟩ := List.getElem?_of_mem hm
   obtain ⟨g1, g2⟩ := a6r (q8 i l hi).2
   exact d3i g1 g2
  simp only [b2w]; omega
 have hv : b7p n.views ≤ 303 := by
  have := b1k (sz := cVi) (k := 100) (l := n.views) fun v hm => by
   obtain ⟨i, hi⟩ := List.getElem?_of_mem hm
   have hlt := (List.getElem?_eq_some_iff.1 hi).1
   obtain ⟨k, hk⟩ : ∃ k, n.known[i]? = some k := ⟨_, List.getElem?_eq_getElem (by omega)⟩
   have := (a1d (q9 i v k hi hk).1.2.2).1
   simp only [cVi]; omega
  simp only [b7p]; omega
 refine ⟨by omega, by omega, by omega, hl, hv, ?_⟩
 simp only [cNd]; omega
theorem b2j {n : Nd} (h : a3r n) : (a2b n).length + (s7s n 3).length ≤ 5000000 := by
 obtain ⟨q1, q2, q3, q4, q5, q6, q7, q8, q9⟩ := h
 have hp := a4q n.id 4
 have := c2x q2 (by omega) q8
 have := b8u q6 q7 q9
 omega

def b2k (l : La) (f t : Nat) : La := ⟨l.proc, l.base, (l.done.take t).drop f⟩
theorem c2y (l : La) : b2k l 0 l.done.length = l := by simp [b2k]
theorem c8l {α : Type} {l : List α} {f i t : Nat} (h1 : f ≤ i) (h2 : i = f ∨ (i ≤ t ∧ i ≤ l.length)) (h3 : ¬ (i < t ∧ i < l.length)) : (l.take i).drop f = (l.take t).drop f := by
 rcases h2 with rfl | ⟨h4, h5⟩
 ·rw [List.drop_of_length_le (by rw [List.length_take]; omega)]
  by_cases h : i < t
  ·rw [List.drop_of_length_le (by rw [List.length_take]; omega)]
  ·rw [List.drop_of_length_le (by rw [List.length_take]; omega)]
 ·by_cases h : i = t
  ·rw [h]
  ·rw [List.take_of_length_le (by omega), List.take_of_length_le (by omega)]

def lb (l : La) : Prop := l.done.length ≤ 1000000 ∧ ∀ p ∈ l.done, p.sends.length ≤ 1000000 ∧ p.outs.length ≤ 1000000
theorem d6g {l : La} (h : a7u l = true) : lb l := by
 obtain ⟨h1, h2⟩ := a6r h
 exact ⟨by omega, fun p hp => by have := h2 p hp; omega⟩
theorem d1u (n : Nd) : zNd n ≤ 20 * cNd n := by
 have e1 : ∀ l : List Ev, szs zEv l = 7 * l.length := fun l => by
  induction l with
  | nil => rfl
  | cons a r ih => simp only [szs, ih, List.length_cons, zEv]; omega
 have e2 : ∀ l : List Ou, szs zOu l = 5 * l.length := fun l => by
  induction l with
  | nil => rfl
  | cons a r ih => simp only [szs, ih, List.length_cons, zOu]; omega
 have e3 : ∀ l : List Int, szs zI l = l.length := fun l => by
  induction l with
  | nil => rfl
  | cons a r ih => simp only [szs, ih, List.length_cons, zI]; omega
 have e4 : ∀ l : List Pa, szs zPa l ≤ 10 * b8t l := fun l => by
  induction l with
  | nil => simp [szs, b8t]
  | cons a r ih => simp only [szs, b8t, List.length_cons, zPa, cPa, e1, e2] at ih ⊢; omega
 have e5 : ∀ l : List La, szs zLa l ≤ 20 * b2w l := fun l => by
  induction l with
  | nil => simp [szs, b2w]
  | cons a r ih => have := e4 a.done; simp only [szs, b2w, List.length_cons, zLa, cLa] at ih ⊢; omega
 have e6 : ∀ l : List Vi, szs zVi l ≤ 20 * b7p l := fun l => by
  induction l with
  | nil => simp [szs, b7p]
  | cons a r ih => simp only [szs, b7p, List.length_cons, zVi, cVi, e1] at ih ⊢; omega
 have := e5 n.lanes
 have := e6 n.views
 simp only [zNd, cNd, e1, e2, e3]; omega

def nb (n : Nd) : Prop := n.lanes.length ≤ 1000000 ∧ n.kept.length ≤ 1000000 ∧ n.outs.length ≤ 1000000 ∧ (∀ l ∈ n.lanes, lb l) ∧ n.views.length ≤ 1000000 ∧ (∀ v ∈ n.views, v.events.length ≤ 1000000) ∧ n.known.length ≤ 1000000
theorem d4z {n : Nd} (h : a3r n) : nb n := by
 have hb := a1l h
 obtain ⟨q1, q2, q3, q4, q5, q6, q7, q8, q9⟩ := h
 refine ⟨by omega, by omega, by omega, fun l hm => ?_, by omega, fun v hm => ?_, by omega⟩
 ·obtain ⟨i, hi⟩ := List.getElem?_of_mem hm
  exact d6g (q8 i l hi).2
 ·obtain ⟨i, hi⟩ := List.getElem?_of_mem hm
  have hlt := (List.getElem?_eq_some_iff.1 hi).1
  obtain ⟨k, hk⟩ : ∃ k, n.known[i]? = some k := ⟨_, List.getElem?_eq_getElem (by omega)⟩
  have := (a1d (q9 i v k hi hk).1.2.2).1
  omega
end
section
structure Wo where
 kind : Int
 from' : Int
 to : Int
 inc : Int
 version : Int
 round : Int
 g : Int
 incs : List Int
 versions : List Int
 events : List Ev
 outs : List Ou
 deriving DecidableEq, Inhabited
def wo0 : Wo := ⟨0, 0, 0, 0, 0, 0, 0, [], [], [], []⟩
def zWo (w : Wo) : Nat := 7 + szs zI w.incs + szs zI w.versions + szs zEv w.events + szs zOu w.outs
def kWo (k : Nat) (w : Wo) : Wo := ⟨(k : Int), (k + 1 : Nat), (k + 1 + 1 : Nat), (k + 1 + 1 + 1 : Nat), (k + 1 + 1 + 1 + 1 : Nat), (k + 1 + 1 + 1 + 1 + 1 : Nat), (k + 1 + 1 + 1 + 1 + 1 + 1 : Nat), mks zI kI (k + 7) w.incs, mks zI kI (k + 7 + szs zI w.incs) w.versions, mks zEv kEv (k + 7 + szs zI w.incs + szs zI w.versions) w.events, mks zOu kOu (k + 7 + szs zI w.incs + szs zI w.versions + szs zEv w.events) w.outs⟩

def zWl (w : Wo) : Nat := szs zI w.incs + szs zI w.versions + szs zEv w.events + szs zOu w.outs
def kWl (k : Nat) (w : Wo) : Wo := { w with incs := mks zI kI k w.incs, versions := mks zI kI (k + szs zI w.incs) w.versions, events := mks zEv kEv (k + szs zI w.incs + szs zI w.versions) w.events, outs := mks zOu kOu (k + szs zI w.incs + szs zI w.versions + szs zEv w.events) w.outs }
theorem d3j (l : List Int) : szs zI l = l.length := by
 induction l with
 | nil => rfl
 | cons a r ih => simp only [szs, ih, List.length_cons, zI]; omega
theorem d5a (l : List Ev) : szs zEv l = 7 * l.length := by
 induction l with
 | nil => rfl
 | cons a r ih => simp only [szs, ih, List.length_cons, zEv]; omega
theorem d5b (l : List Ou) : szs zOu l = 5 * l.length := by
 induction l with
 | nil => rfl
 | cons a r ih => simp only [szs, ih, List.length_cons, zOu]; omega
def d6h (n : Nd) (to : Int) (e : Ev) : Bool := decide (a5m e.to = to ∧ n.known.getD to.toNat 0 ≤ e.time)
def d8l (to kn : Int) (e : Ev) : Bool := decide (a5m e.to = to ∧ kn ≤ e.time)
def d5c (n : Nd) (to : Int) : List Ev := r1r ((a2b n).filter (d6h n to))
def d5e (n : Nd) (to : Int) : Wo := ⟨1, n.id, to, n.inc, n.version, 0, n.g, [], [], d5c n to, []⟩
def d6i (n : Nd) : Wo := ⟨7, n.id, 0, 0, 0, 0, n.g, [], [], [], n.outs⟩
def c4k (n : Nd) : Nat → List Wo
 | 0 => []
 | k + 1 => if (k : Int) = n.id then c4k n k else c4k n k ++ [d5e n (k : Int)]
open Classical in
noncomputable def d8m (n : Nd) : List Wo := if a1t n ∧ n.up = true then (if n.id = 0 then c4k n 3 else c4k n 3 ++ [d6i n]) else []
end
section
theorem c4l {α : Type} {ok : α → Bool} {lt : α → α → Bool} (O : STO lt) : ∀ {l : List α} {o : Option α}, a6b ok lt o l = true ↔ (∀ a ∈ l, ok a = true) ∧ SS lt l ∧ ∀ b, o = some b → ∀ a ∈ l, lt b a = true
 | [], o => by simp [a6b, SS]
 | a :: r, o => by
  have e : a6b ok lt o (a :: r) = (ok a && (match o with | none => true | some b => lt b a) && a6b ok lt (some a) r) := by cases o <;> rfl
  rw [e, Bool.and_eq_true, Bool.and_eq_true, c4l O]
  constructor
  ·rintro ⟨⟨h1, h2⟩, h3, h4, h5⟩
   refine ⟨fun x hx => ?_, List.pairwise_cons.2 ⟨h5 a rfl, h4⟩, fun b hb x hx => ?_⟩
   ·rcases List.mem_cons.1 hx with rfl | hx
    ·exact h1
    ·exact h3 x hx
   ·subst hb
    rcases List.mem_cons.1 hx with rfl | hx
    ·exact h2
    ·exact O.trans _ _ _ h2 (h5 a rfl x hx)
  ·rintro ⟨h1, h2, h3⟩
   obtain ⟨h4, h5⟩ := List.pairwise_cons.1 h2
   refine ⟨⟨h1 a (List.mem_cons_self ..), ?_⟩, fun x hx => h1 x (List.mem_cons_of_mem _ hx), h5, fun b hb => by cases hb; exact h4⟩
   cases o with
   | none => rfl
   | some b => exact h3 b rfl a (List.mem_cons_self ..)
theorem d0o {α : Type} {ok : α → Bool} {lt : α → α → Bool} (O : STO lt) {l : List α} {most : Int} : a6c ok lt l most = true ↔ (l.length : Int) ≤ most ∧ (∀ a ∈ l, ok a = true) ∧ SS lt l := by
 rw [a6c, Bool.and_eq_true, decide_eq_true_eq, c4l O]
 exact ⟨fun h => ⟨h.1, h.2.1, h.2.2.1⟩, fun h => ⟨h.1, h.2.1, h.2.2, fun b hb => by cases hb⟩⟩
theorem d0p {n : Nd} (h : a3r n) {e : Ev} (he : e ∈ a2b n) : okE e = true := by
 obtain ⟨q1, q2, q3, q4, q5, q6, q7, q8, q9⟩ := h
 rcases List.mem_append.1 he with he | he
 ·exact (a1d q2).2 e he
 ·obtain ⟨l, hl, he⟩ := List.mem_flatMap.1 he
  obtain ⟨p, hp, he⟩ := List.mem_flatMap.1 he
  obtain ⟨i, hi⟩ := List.getElem?_of_mem hl
  have h1 := (q8 i l hi).2
  simp only [a7u, Bool.and_eq_true] at h1
  have h2 := (a1d h1.2).2 p hp
  simp only [b1w, Bool.and_eq_true] at h2
  exact (a1d h2.1.2).2 e he
theorem c8m {n : Nd} (h : a3r n) {e : Ev} (he : e ∈ s7s n 3) : okE e = true := by
 obtain ⟨q1, q2, q3, q4, q5, q6, q7, q8, q9⟩ := h
 obtain ⟨j, hj, he⟩ := List.mem_flatMap.1 he
 rw [List.mem_range] at hj
 unfold b2i at he
 split at he
 ·cases he
 ·obtain ⟨v, hv⟩ : ∃ v, n.views[j]? = some v := ⟨_, List.getElem?_eq_getElem (by omega)⟩
  obtain ⟨k, hk⟩ : ∃ k, n.known[j]? = some k := ⟨_, List.getElem?_eq_getElem (by omega)⟩
  rw [List.getD_eq_getElem?_getD, hv] at he
  exact (a1d (q9 j v k hv hk).1.2.2).2 e he
theorem c4m {n : Nd} {p : Int} {e : Ev} : e ∈ s9s n p ↔ (e ∈ a2b n ∨ e ∈ s7s n 3) ∧ e.to = p ∧ n.g ≤ e.time := by
 unfold s9s r1r
 rw [c4e, List.mem_filter, List.mem_append]
 simp [a4r]

def a8f (l : La) (s : List Ev) : Prop := a6c okE a1g s 100 = true ∧ ∀ e ∈ s, e.to = l.proc
theorem c8n {n : Nd} (h : a3r n) {l : La} (hc : (s9s n l.proc).length ≤ 100) : a8f l (s9s n l.proc) := by
 refine ⟨(d0o c2u).2 ⟨by omega, fun e he => ?_, c1j _⟩, fun e he => ?_⟩
 ·rcases (c4m.1 he).1 with h1 | h1
  ·exact d0p h h1
  ·exact c8m h h1
 ·exact (c4m.1 he).2.1
def ev0 : Ev := ⟨0, 0, 0, 0, 0, 0, 0⟩

def a1m (l : La) (s : List Ev) : Ev × Bool := if same l.done s < l.done.length then (ev0, false) else match s[same l.done s]? with
 | some e => (e, true)
 | none => (ev0, false)
theorem c8o {l : La} {s : List Ev} (h : same l.done s < l.done.length) : a1m l s = (ev0, false) := if_pos h
theorem c8p {l : La} {s : List Ev} (h2 : s.length ≤ same l.done s) : a1m l s = (ev0, false) := by
 unfold a1m
 split
 ·rfl
 ·rw [List.getElem?_eq_none h2]
theorem c8q {l : La} {s : List Ev} {e : Ev} (h : ¬ same l.done s < l.done.length) (h2 : s[same l.done s]? = some e) : a1m l s = (e, true) := by unfold a1m; rw [if_neg h, h2]
theorem b8v : ∀ (d : List Pa) (s : List Ev), same d s ≤ s.length ∧ same d s ≤ d.length
 | [], s => by cases s <;> simp [same]
 | _ :: _, [] => by simp [same]
 | p :: d, e :: s => by
  have := b8v d s
  simp only [same]
  split
  ·simp only [List.length_cons]; omega
  ·simp
open Classical in
noncomputable def b6f (l : La) (s : List Ev) : Ev × Bool := if a7u l = true ∧ a8f l s then a1m l s else (ev0, false)
theorem b8w {l : La} {s : List Ev} (h : a7u l = true ∧ a8f l s) : b6f l s = a1m l s := if_pos h
theorem c8r {l : La} {s : List Ev} (h : ¬ (a7u l = true ∧ a8f l s)) : b6f l s = (ev0, false) := if_neg h

def a7f (n : Nd) : Nat → Int
 | 0 => 41
 | k + 1 => match n.lanes[k]? with
  | some l => if (a1m l (s9s n l.proc)).2 = true ∧ (a1m l (s9s n l.proc)).1.time < a7f n k then (a1m l (s9s n l.proc)).1.time else a7f n k
  | none => a7f n k
theorem c8s {n : Nd} {k : Nat} {l : La} (h : n.lanes[k]? = some l) (h2 : (a1m l (s9s n l.proc)).2 = true ∧ (a1m l (s9s n l.proc)).1.time < a7f n k) : a7f n (k + 1) = (a1m l (s9s n l.proc)).1.time := by
 show (match n.lanes[k]? with | some l => _ | none => _) = _
 rw [h]; exact if_pos h2
theorem b8x {n : Nd} {k : Nat} {l : La} (h : n.lanes[k]? = some l) (h2 : ¬ ((a1m l (s9s n l.proc)).2 = true ∧ (a1m l (s9s n l.proc)).1.time < a7f n k)) : a7f n (k + 1) = a7f n k := by
 show (match n.lanes[k]? with | some l => _ | none => _) = _
 rw [h]; exact if_neg h2
def d3k (n : Nd) : Int := a7f n n.lanes.length
open Classical in
noncomputable def b2l (n : Nd) : Int := if a1t n then d3k n else 0
theorem c1n {n : Nd} (h : a1t n) : b2l n = d3k n := if_pos h
theorem c8t {n : Nd} (h : ¬ a1t n) : b2l n = 0 := if_neg h

theorem c1o {n : Nd} (h : a1t n) {i : Nat} {l : La} (hl : n.lanes[i]? = some l) : (a0s n.id 4)[i]? = some l.proc ∧ a7u l = true ∧ a8f l (s9s n l.proc) ∧ l.done.length ≤ same l.done (s9s n l.proc) := by
 obtain ⟨h1, h2⟩ := h.1.2.2.2.2.2.2.2.1 i l hl
 obtain ⟨h3, h4⟩ := h.2 i l.proc l h1 hl
 exact ⟨h1, h2, c8n h.1 h4, h3⟩
def d5f (n : Nd) (r : Int) : Wo := ⟨3, n.id, 0, n.inc, 0, r, d3k n, n.views.map Vi.inc, n.views.map Vi.version, [], []⟩
open Classical in
noncomputable def z2z (n : Nd) (r : Int) : Nd × Wo × Bool := if a1t n then (if n.up = true ∧ n.round + 1 ≤ r ∧ r ≤ 9999 then ({ n with round := r, low := 41 }, d5f n r, true) else (n, wo0, false)) else (nd0, wo0, false)
theorem c4n {n : Nd} {r : Int} (h : ¬ a1t n) : z2z n r = (nd0, wo0, false) := if_neg h
theorem b3u {n : Nd} {r : Int} (h : a1t n) (h2 : ¬ (n.up = true ∧ n.round + 1 ≤ r ∧ r ≤ 9999)) : z2z n r = (n, wo0, false) := by unfold z2z; rw [if_pos h, if_neg h2]
theorem c4o {n : Nd} {r : Int} (h : a1t n) (h2 : n.up = true ∧ n.round + 1 ≤ r ∧ r ≤ 9999) : z2z n r = ({ n with round := r, low := 41 }, d5f n r, true) := by unfold z2z; rw [if_pos h, if_pos h2]
theorem c1p (n : Nd) (r : Int) : cNd (z2z n r).1 ≤ 3000 ∧ zWl (z2z n r).2.1 ≤ 1000 := by
 unfold z2z
 split
 ·rename_i h
  have hb := a1l h.1
  have hv := h.1.2.2.2.2.2.1
  split
  ·refine ⟨?_, ?_⟩
   ·have : cNd ({ n with round := r, low := 41 } : Nd) = cNd n := rfl
    show cNd ({ n with round := r, low := 41 } : Nd) ≤ 3000
    omega
   ·simp only [zWl, d5f, d3j, d5a, d5b, List.length_map, List.length_nil]; omega
  ·exact ⟨by show cNd n ≤ 3000; omega, by show zWl wo0 ≤ 1000; decide⟩
 ·exact ⟨by show cNd nd0 ≤ 3000; decide, by show zWl wo0 ≤ 1000; decide⟩
end
section
def a0x (p : Int) : List AV := [.pv (.int .i64 p)]
def d8n (p : Nat) : List AV := [.pv (.int .u8 (p : Int))]
def v6v (e : Ev) : List AV := (evN e).map pI
def s2s (o : Ou) : List AV := (ouL o).map pI
def a0e (s : St) : List AV := (stL s).map pI
theorem d3l (a b : Ev) : (evN a == evN b) = decide (a = b) := by
 rw [Bool.eq_iff_iff]
 cases a; cases b
 simp [evN]
theorem d6j (x y : Operand) (a b : Ev) : EqA Tryz.prog 76 x y (.agg (v6v a)) (.agg (v6v b)) (decide (a = b)) := by
 rw [← d3l]; exact c9v Tryz.underlying76 (by kernel_rfl) (by kernel_rfl) (by kernel_rfl) x y (evN a) (evN b) rfl rfl
def a3s (c : Bool) (l : List Int) : AV := .row (.rd c) 3 1 (l.map a0x)
def d6z (c : Bool) (l : List Nat) : AV := .row (.rd c) 5 1 (l.map d8n)
def a1n (c : Bool) (l : List Ev) : AV := .row (.rd c) 76 7 (l.map v6v)
def a3k (c : Bool) (l : List Ou) : AV := .row (.rd c) 104 5 (l.map s2s)
def a2c (c : Bool) (p : Pa) : List AV := v6v p.ev ++ (a0e p.after ++ [a1n c p.sends, a3k c p.outs])
def a7l (c : Bool) (l : List Pa) : AV := .row (.rd c) 78 12 (l.map (a2c c))
def a1q (c : Bool) (a : La) : List AV := pI a.proc :: (a0e a.base ++ [a7l c a.done])
def b9u (c : Bool) (l : List La) : AV := .row (.rd c) 65 5 (l.map (a1q c))
def a4b (c : Bool) (v : Vi) : List AV := [pI v.inc, pI v.version, a1n c v.events]
def b9v (c : Bool) (l : List Vi) : AV := .row (.rd c) 141 3 (l.map (a4b c))
def a0t (c : Bool) (n : Nd) : List AV := [pI n.id, .pv (.bool n.up), pI n.inc, pI n.g, b9u c n.lanes, a1n c n.kept, a3k c n.outs, pI n.led, pI n.version, b9v c n.views, a3s c n.known, pI n.round, pI n.low]
def a1u (p : Pa) : List AV := v6v p.ev ++ (a0e p.after ++ [.row .ow 76 7 (p.sends.map v6v), .row .ow 104 5 (p.outs.map s2s)])
def a0u (a : La) : List AV := pI a.proc :: (a0e a.base ++ [.row .ow 78 12 (a.done.map a1u)])
def a0v (v : Vi) : List AV := [pI v.inc, pI v.version, .row .ow 76 7 (v.events.map v6v)]
def c4p : List AV := [pI 0, pI 0, .pv (.slice none 0 0)]
theorem c5p {k c : Bool} (hc : c = true → k = true) (p : Pa) : LeL k (a1u p) (a2c c p) :=
 .cons (.cl rfl) (.cons (.cl rfl) (.cons (.cl rfl) (.cons (.cl rfl) (.cons (.cl rfl) (.cons (.cl rfl) (.cons (.cl rfl) (.cons (.cl rfl) (.cons (.cl rfl) (.cons (.cl rfl) (.cons (Le.ow_map _ hc (fun _ => rfl)) (.cons (Le.ow_map _ hc (fun _ => rfl)) .nil)))))))))))
theorem c5q {k c : Bool} (hc : c = true → k = true) (a : La) : LeL k (a0u a) (a1q c a) :=
 .cons (.cl rfl) (.cons (.cl rfl) (.cons (.cl rfl) (.cons (.cl rfl) (.cons (Le.ow_map2 _ hc (c5p hc)) .nil))))
theorem c5r {k c : Bool} (hc : c = true → k = true) (v : Vi) : LeL k (a0v v) (a4b c v) := .cons (.cl rfl) (.cons (.cl rfl) (.cons (Le.ow_map _ hc (fun _ => rfl)) .nil))
theorem nf {k : Bool} : false = true → k = true := fun h => by cases h
theorem LendL.cls {h : Hp} : ∀ {cs : List AV}, (cs.all AV.cl) = true → LendL h cs cs []
 | [], _ => .nil
 | a :: cs, hc => by rw [List.all_cons, Bool.and_eq_true] at hc; exact .cl hc.1 (LendL.cls hc.2)
theorem c2z {h : Hp} {cs ls bs : List AV} {T : TL} (h1 : (cs.all AV.one) = true) (hc : (cs.all AV.cl) = true) (t : LendL h ls bs T) : LendL h (.agg cs :: ls) (.agg cs :: bs) T := .agg h1 (.cls hc) t
theorem a9f {h : Hp} {n : Nd} {i0 i1 i2 i3 i4 g0 g1 g2 g3 g4 : Nat} {ls bs : List AV} {T : TL} (h0 : u6u h i0 = some (g0, .row 65 5 (n.lanes.map a0u))) (h1 : u6u h i1 = some (g1, .row 76 7 (n.kept.map v6v))) (h2 : u6u h i2 = some (g2, .row 104 5 (n.outs.map s2s))) (h3 : u6u h i3 = some (g3, .row 141 3 (n.views.map a0v))) (h4 : u6u h i4 = some (g4, .row 3 1 (n.known.map a0x))) (t : LendL h ls bs T) :
  LendL h (.agg [pI n.id, .pv (.bool n.up), pI n.inc, pI n.g, .ref i0 g0, .ref i1 g1, .ref i2 g2, pI n.led, pI n.version, .ref i3 g3, .ref i4 g4, pI n.round, pI n.low] :: ls) (.agg (a0t false n) :: bs)
   ([(i0, (g0, .row 65 5 (n.lanes.map a0u))), (i1, (g1, .row 76 7 (n.kept.map v6v))), (i2, (g2, .row 104 5 (n.outs.map s2s))), (i3, (g3, .row 141 3 (n.views.map a0v))), (i4, (g4, .row 3 1 (n.known.map a0x)))] ++ T) :=
 .agg rfl (.cl rfl (.cl rfl (.cl rfl (.cl rfl (.ref h0 (Le.ow_map2 _ nf (c5q nf)) (.ref h1 (Le.ow_map _ nf (fun _ => rfl)) (.ref h2 (Le.ow_map _ nf (fun _ => rfl)) (.cl rfl (.cl rfl (.ref h3 (Le.ow_map2 _ nf (c5r nf)) (.ref h4 (Le.ow_map _ nf (fun _ => rfl)) (.cl rfl (.cl rfl .nil))))))))))))) t
theorem d1v {h : Hp} {p : Pa} {i j g g' : Nat} (h1 : u6u h i = some (g, .row 76 7 (p.sends.map v6v))) (h2 : u6u ((i, (g, .dead)) :: h) j = some (g', .row 104 5 (p.outs.map s2s))) (hne : Nat.beq i j = false) :
  Abs [pI p.ev.time, pI p.ev.to, pI p.ev.from', pI p.ev.count, pI p.ev.n, pI p.ev.kind, pI p.ev.arg, pI p.after.x, pI p.after.y, pI p.after.count, .ref i g, .ref j g'] h (a1u p)
   [(i, (g, .row 76 7 (p.sends.map v6v))), (j, (g', .row 104 5 (p.outs.map s2s)))] [(i, (g, .dead)), (j, (g', .dead))] := by
 have hne' : i ≠ j := fun e => by subst e; rw [Nat.beq_refl] at hne; cases hne
 exact .val rfl rfl (.val rfl rfl (.val rfl rfl (.val rfl rfl (.val rfl rfl (.val rfl rfl (.val rfl rfl (.val rfl rfl (.val rfl rfl (.val rfl rfl
  (.ref h1 (u3u fun _ => rfl) (.ref h2 (u3u fun _ => rfl) .nil rfl rfl) (by rw [p8p, if_neg (Ne.symm hne')]; rfl) (by simp [Ne.symm hne'])))))))))))
theorem d1w {h : Hp} {a : La} {i g : Nat} (h1 : u6u h i = some (g, .row 78 12 (a.done.map a1u))) :
  Abs [pI a.proc, pI a.base.x, pI a.base.y, pI a.base.count, .ref i g] h (a0u a) [(i, (g, .row 78 12 (a.done.map a1u)))] [(i, (g, .dead))] :=
 .val rfl rfl (.val rfl rfl (.val rfl rfl (.val rfl rfl (.ref h1 (u3u fun _ => rfl) .nil rfl rfl))))
theorem d1x {h : Hp} {v : Vi} {i g : Nat} (h1 : u6u h i = some (g, .row 76 7 (v.events.map v6v))) :
  Abs [pI v.inc, pI v.version, .ref i g] h (a0v v) [(i, (g, .row 76 7 (v.events.map v6v)))] [(i, (g, .dead))] :=
 .val rfl rfl (.val rfl rfl (.ref h1 (u3u fun _ => rfl) .nil rfl rfl))
theorem d3w {α : Type} [DecidableEq α] {l l' : List α} (h : ¬ l.length = l'.length) : [AV.pv (.bool false)] = [AV.pv (.bool (decide (l = l')))] := by
 rw [decide_eq_false (fun e => h (by rw [e]))]
theorem d3x {α : Type} [DecidableEq α] {l l' : List α} {i : Nat} {x y : α} (hx : l[i]? = some x) (hy : l'[i]? = some y) (h : ¬ x = y) : [AV.pv (.bool false)] = [AV.pv (.bool (decide (l = l')))] := by
 rw [decide_eq_false (fun e => h (by subst e; rw [hx] at hy; exact Option.some.inj hy))]
theorem eqT {α : Type} [DecidableEq α] {l l' : List α} {i : Nat} (h : l.take i = l'.take i) (h1 : l.length ≤ i) (h2 : l'.length ≤ i) : [AV.pv (.bool true)] = [AV.pv (.bool (decide (l = l')))] := by
 rw [List.take_of_length_le h1, List.take_of_length_le h2] at h
 rw [decide_eq_true h]
theorem a6s {α : Type} {l l' : List α} {i : Nat} {x y : α} (h : l.take i = l'.take i) (hx : l[i]? = some x) (hy : l'[i]? = some y) (e : x = y) : l.take (i + 1) = l'.take (i + 1) := by
 subst e
 rw [List.take_add_one, List.take_add_one, h, hx, hy]
def c8u (p : Int) : List AV := [pI p, pI 0, pI 0, pI 0, .pv (.slice none 0 0)]
theorem c8v (p : Int) : LeL true (c8u p) (a1q true (c8f p)) := .cons (.cl rfl) (.cons (.cl rfl) (.cons (.cl rfl) (.cons (.cl rfl) (.cons .nil .nil))))
theorem kF {p : Prop} [Decidable p] (h : ¬ p) : [AV.pv (.bool false)] = [AV.pv (.bool (decide p))] := by rw [decide_eq_false h]
theorem kT {p : Prop} [Decidable p] (h : p) : [AV.pv (.bool true)] = [AV.pv (.bool (decide p))] := by rw [decide_eq_true h]
theorem c8w {α β : Type} {f : α → β} {l : List α} {i : Nat} {x : α} (hx : l[i]? = some x) : (l.map f)[i]? = some (f x) := by simp [hx]
theorem evF : FindK Tryz.prog 179 (fun k => b5v (evN k)) := by
 obtain ⟨i, h1, _⟩ := (x6x _ _ y6y).info
 exact c5d Tryz.underlying179 h1 (by kernel_rfl) Tryz.underlying3 (fun _ => rfl) (fun _ _ h => c8e h)
theorem d0q (e : Ev) : StrC (v6v e) := StrC.ints (evN e)
theorem d3m (e : Ou) : StrC (s2s e) := StrC.ints (ouL e)
theorem d6k (e : Int) : StrC (a0x e) := .cons (.pv _) rfl .nil
theorem d5g (p : Pa) : StrC (a1u p) := (StrC.ints (evN p.ev)).append ((StrC.ints (stL p.after)).append (.own (StrC.map d0q _) (.own (StrC.map d3m _) .nil)))
theorem d5h (a : La) : StrC (a0u a) := .cons (.pv _) rfl ((StrC.ints (stL a.base)).append (.own (StrC.map d5g _) .nil))
theorem d5i (v : Vi) : StrC (a0v v) := .cons (.pv _) rfl (.cons (.pv _) rfl (.own (StrC.map d0q _) .nil))
theorem d5j {n : Nd} {i0 i1 i2 i3 i4 g0 g1 g2 g3 g4 : Nat} {r : Hp} (t : StrH r) : StrH ((i0, (g0, .row 65 5 (n.lanes.map a0u))) :: (i1, (g1, .row 76 7 (n.kept.map v6v))) :: (i2, (g2, .row 104 5 (n.outs.map s2s))) :: (i3, (g3, .row 141 3 (n.views.map a0v))) :: (i4, (g4, .row 3 1 (n.known.map a0x))) :: r) :=
 .row (StrC.map d5h _) (.row (StrC.map d0q _) (.row (StrC.map d3m _) (.row (StrC.map d5i _) (.row (StrC.map d6k _) t))))
theorem d6l {a b : List AV} (h : ∀ y ∈ a, Strict y) (k : ∀ y ∈ b, Strict y) : ∀ y ∈ a ++ b, Strict y := fun y hy => by
 rcases List.mem_append.1 hy with hy | hy
 ·exact h y hy
 ·exact k y hy
theorem a0y {a : AV} {b : List AV} (h : Strict a) (k : ∀ y ∈ b, Strict y) : ∀ y ∈ a :: b, Strict y := fun y hy => by
 rcases List.mem_cons.1 hy with rfl | hy
 ·exact h
 ·exact k y hy
theorem d1y : ∀ y ∈ ([] : List AV), Strict y := fun y hy => by cases hy
theorem c5s (l : List Int) : ∀ y ∈ l.map pI, Strict y := fun y hy => by
 obtain ⟨n, _, rfl⟩ := List.mem_map.1 hy
 exact .pv _
theorem b1l (l : List Ev) : Strict (a1n true l) := a4h fun e => c5s (evN e)
theorem b5i (l : List Ou) : Strict (a3k true l) := a4h fun e => c5s (ouL e)
theorem b2m (l : List Int) : Strict (a3s true l) := a4h fun e => a0y (.pv _) d1y
theorem sPa (p : Pa) : ∀ y ∈ a2c true p, Strict y := d6l (c5s (evN p.ev)) (d6l (c5s (stL p.after)) (a0y (b1l _) (a0y (b5i _) d1y)))
theorem c8x (l : List Pa) : Strict (a7l true l) := a4h sPa
theorem sLa (a : La) : ∀ y ∈ a1q true a, Strict y := a0y (.pv _) (d6l (c5s (stL a.base)) (a0y (c8x _) d1y))
theorem c8y (l : List La) : Strict (b9u true l) := a4h sLa
theorem sVi (v : Vi) : ∀ y ∈ a4b true v, Strict y := a0y (.pv _) (a0y (.pv _) (a0y (b1l _) d1y))
theorem c8z (l : List Vi) : Strict (b9v true l) := a4h sVi
theorem d0r (n : Nd) : Strict (.agg (a0t true n)) :=
 .agg (a0y (.pv _) (a0y (.pv _) (a0y (.pv _) (a0y (.pv _) (a0y (c8y _) (a0y (b1l _) (a0y (b5i _) (a0y (.pv _) (a0y (.pv _) (a0y (c8z _) (a0y (b2m _) (a0y (.pv _) (a0y (.pv _) d1y)))))))))))))
def b6g (c : Bool) (w : Wo) : List AV := [pI w.kind, pI w.from', pI w.to, pI w.inc, pI w.version, pI w.round, pI w.g, a3s c w.incs, a3s c w.versions, a1n c w.events, a3k c w.outs]
def d1z (c : Bool) (l : List Wo) : AV := .row (.rd c) 52 11 (l.map (b6g c))
def d7a (w : Wo) : List AV := [pI w.kind, pI w.from', pI w.to, pI w.inc, pI w.version, pI w.round, pI w.g, .row .ow 3 1 (w.incs.map a0x), .row .ow 3 1 (w.versions.map a0x), .row .ow 76 7 (w.events.map v6v), .row .ow 104 5 (w.outs.map s2s)]
theorem sWo (w : Wo) : ∀ y ∈ b6g true w, Strict y :=
 a0y (.pv _) (a0y (.pv _) (a0y (.pv _) (a0y (.pv _) (a0y (.pv _) (a0y (.pv _) (a0y (.pv _) (a0y (b2m _) (a0y (b2m _) (a0y (b1l _) (a0y (b5i _) d1y))))))))))
theorem d0s (w : Wo) : Strict (.agg (b6g true w)) := .agg (sWo w)
theorem u2u : (∀ ρ g c l, inB ρ g (a3s c l) = a3s c l) ∧ (∀ ρ g c l, inC ρ g (a3s c l) = a3s c l) ∧ (∀ ρ g c l, inA ρ g (a3s c l) = a3s c l) ∧ (∀ ρ g c l, inT ρ g (a3s c l) = a3s c l) ∧ (∀ ρ g c l, inB ρ g (a1n c l) = a1n c l) ∧ (∀ ρ g c l, inC ρ g (a1n c l) = a1n c l) ∧ (∀ ρ g c l, inA ρ g (a1n c l) = a1n c l) ∧ (∀ ρ g c l, inT ρ g (a1n c l) = a1n c l) ∧ (∀ ρ g c l, inB ρ g (a3k c l) = a3k c l) ∧ (∀ ρ g c l, inC ρ g (a3k c l) = a3k c l) ∧ (∀ ρ g c l, inA ρ g (a3k c l) = a3k c l) ∧ (∀ ρ g c l, inT ρ g (a3k c l) = a3k c l) ∧ (∀ ρ g c l, inB ρ g (a7l c l) = a7l c l) ∧ (∀ ρ g c l, inC ρ g (a7l c l) = a7l c l) ∧ (∀ ρ g c l, inA ρ g (a7l c l) = a7l c l) ∧ (∀ ρ g c l, inT ρ g (a7l c l) = a7l c l) ∧ (∀ ρ g c l, inB ρ g (b9u c l) = b9u c l) ∧ (∀ ρ g c l, inC ρ g (b9u c l) = b9u c l) ∧ (∀ ρ g c l, inA ρ g (b9u c l) = b9u c l) ∧ (∀ ρ g c l, inT ρ g (b9u c l) = b9u c l) ∧ (∀ ρ g c l, inB ρ g (b9v c l) = b9v c l) ∧ (∀ ρ g c l, inC ρ g (b9v c l) = b9v c l) ∧ (∀ ρ g c l, inA ρ g (b9v c l) = b9v c l) ∧ (∀ ρ g c l, inT ρ g (b9v c l) = b9v c l) ∧ (∀ ρ g c l, inB ρ g (d1z c l) = d1z c l) ∧ (∀ ρ g c l, inC ρ g (d1z c l) = d1z c l) ∧ (∀ ρ g c l, inA ρ g (d1z c l) = d1z c l) ∧ (∀ ρ g c l, inT ρ g (d1z c l) = d1z c l) := by
 refine ⟨?_, ?_, ?_, ?_, ?_, ?_, ?_, ?_, ?_, ?_, ?_, ?_, ?_, ?_, ?_, ?_, ?_, ?_, ?_, ?_, ?_, ?_, ?_, ?_, ?_, ?_, ?_, ?_⟩ <;> intros <;> rfl
theorem c1q {h : Hp} {w : Wo} {i0 i1 i2 i3 g0 g1 g2 g3 : Nat} {ls bs : List AV} {T : TL} (h0 : u6u h i0 = some (g0, .row 3 1 (w.incs.map a0x))) (h1 : u6u h i1 = some (g1, .row 3 1 (w.versions.map a0x))) (h2 : u6u h i2 = some (g2, .row 76 7 (w.events.map v6v))) (h3 : u6u h i3 = some (g3, .row 104 5 (w.outs.map s2s))) (t : LendL h ls bs T) :
  LendL h (.agg [pI w.kind, pI w.from', pI w.to, pI w.inc, pI w.version, pI w.round, pI w.g, .ref i0 g0, .ref i1 g1, .ref i2 g2, .ref i3 g3] :: ls) (.agg (b6g false w) :: bs)
   ([(i0, (g0, .row 3 1 (w.incs.map a0x))), (i1, (g1, .row 3 1 (w.versions.map a0x))), (i2, (g2, .row 76 7 (w.events.map v6v))), (i3, (g3, .row 104 5 (w.outs.map s2s)))] ++ T) :=
 .agg rfl (.cl rfl (.cl rfl (.cl rfl (.cl rfl (.cl rfl (.cl rfl (.cl rfl (.ref h0 (Le.ow_map _ nf (fun _ => rfl)) (.ref h1 (Le.ow_map _ nf (fun _ => rfl)) (.ref h2 (Le.ow_map _ nf (fun _ => rfl)) (.ref h3 (Le.ow_map _ nf (fun _ => rfl)) .nil))))))))))) t
theorem d5k {w : Wo} {i0 i1 i2 i3 g0 g1 g2 g3 : Nat} {r : Hp} (t : StrH r) : StrH ((i0, (g0, .row 3 1 (w.incs.map a0x))) :: (i1, (g1, .row 3 1 (w.versions.map a0x))) :: (i2, (g2, .row 76 7 (w.events.map v6v))) :: (i3, (g3, .row 104 5 (w.outs.map s2s))) :: r) :=
 .row (StrC.map d6k _) (.row (StrC.map d6k _) (.row (StrC.map d0q _) (.row (StrC.map d3m _) t)))
theorem c9a {h h' : Hp} {n : Nd} {i0 i3 i4 g0 g3 g4 : Nat} {az bs : List AV} (h0 : u6u h i0 = some (g0, .row 65 5 (n.lanes.map (a1q true)))) (h3 : u6u ((i0, (g0, .dead)) :: h) i3 = some (g3, .row 141 3 (n.views.map (a4b true)))) (h4 : u6u ((i3, (g3, .dead)) :: (i0, (g0, .dead)) :: h) i4 = some (g4, .row 3 1 (n.known.map a0x)))
  (t : FinL ((i4, (g4, .dead)) :: (i3, (g3, .dead)) :: (i0, (g0, .dead)) :: h) az bs h') :
  FinL h (.agg [pI n.id, .pv (.bool n.up), pI n.inc, pI n.g, .ref i0 g0, a1n true n.kept, a3k true n.outs, pI n.led, pI n.version, .ref i3 g3, .ref i4 g4, pI n.round, pI n.low] :: az) (.agg (a0t true n) :: bs) h' :=
 .agg rfl (.cl rfl (.cl rfl (.cl rfl (.cl rfl (.ref h0 (Le.ow_map _ (fun _ => rfl) (fun _ => rfl)) (.cl rfl (.cl rfl (.cl rfl (.cl rfl (.ref h3 (Le.ow_map _ (fun _ => rfl) (fun _ => rfl)) (.ref h4 (Le.ow_map _ (fun _ => rfl) (fun _ => rfl)) (.cl rfl (.cl rfl .nil))))))))))))) t
theorem d3n {h h' : Hp} {az bs : List AV} (t : FinL h az bs h') : FinL h (.agg [pI 0, .pv (.bool false), pI 0, pI 0, .pv (.slice none 0 0), .pv (.slice none 0 0), .pv (.slice none 0 0), pI 0, pI 0, .pv (.slice none 0 0), .pv (.slice none 0 0), pI 0, pI 0] :: az) (.agg (a0t true nd0) :: bs) h' :=
 .agg rfl (.cl rfl (.cl rfl (.cl rfl (.cl rfl (.le rfl .nil (.le rfl .nil (.le rfl .nil (.cl rfl (.cl rfl (.le rfl .nil (.le rfl .nil (.cl rfl (.cl rfl .nil))))))))))))) t
theorem c3a {h h' : Hp} {az bs : List AV} (t : FinL h az bs h') : FinL h (.agg [pI 0, pI 0, pI 0, pI 0, pI 0, pI 0, pI 0, .pv (.slice none 0 0), .pv (.slice none 0 0), .pv (.slice none 0 0), .pv (.slice none 0 0)] :: az) (.agg (b6g true wo0) :: bs) h' :=
 .agg rfl (.cl rfl (.cl rfl (.cl rfl (.cl rfl (.cl rfl (.cl rfl (.cl rfl (.le rfl .nil (.le rfl .nil (.le rfl .nil (.le rfl .nil .nil))))))))))) t
end
section
theorem a4t (l : List Int) (k : Nat) (hk : k + szs zI l ≤ 1000000000) : Meth Tryz.prog 20 1 [0] [.ref 0 0, .pv (.int .i64 (k : Int))] [(0, (0, .row 3 1 (l.map a0x)))] (.pv (.int .i64 ((k + szs zI l : Nat) : Int))) [(0, (0, .row 3 1 ((mks zI kI k l).map a0x)))] := by
 refine u9u x6x (fn := Tryz.f20) (by kernel_rfl) (by kernel_rfl) rfl (O0 := [.pv (.int .i64 ((k + szs zI l : Nat) : Int))]) 1 0 (Nat.le_of_ble_eq_true rfl) (by rfl) (by repeat (first | exact BndH.nil | refine BndH.row (u3u fun _ => rfl) ?_)) (by repeat (first | exact BndH.nil | refine BndH.row (u3u fun _ => rfl) ?_)) (by rfl) fun γ => ?_
 show Ex Tryz.prog _ _ [(0, .ref 0 (γ 0)), (1, .pv (.int .i64 (k : Int)))] [(0, ((γ 0), .row 3 1 (l.map a0x)))] _
 have hml := a3o zI kI k l
 have hll := a3p zI (fun p => by unfold zI; omega) l
 refine x4x x6x (by rfl) ?_
 refine x2x rfl ?_
 refine x5x fun K1 hK1 => ?_
 refine x4x x6x (by rfl) ?_
 refine x2x rfl ?_
 refine y7y ?_
 refine u5u (ι := Nat) (fun i γ1 => [(1, .pv (.int .i64 ((k + szs zI (l.take i) : Nat) : Int))), (5, .pv (.int .i64 (i : Int)))]) (fun i γ1 => [(0, ((γ 0), .row 3 1 (((mks zI kI k l).take i).map a0x ++ (l.drop i).map a0x)))]) (fun i => i ≤ l.length) (fun i => l.length - i) (Cov.cons (t := 0) rfl Cov.nil) HE.nil 0 (by omega) [] (Cov.cons' (t := 1) rfl (by rw [List.take_zero]; rfl) (Cov.cons (t := 5) rfl Cov.nil)) (HE.row rfl (by rw [List.take_zero, List.drop_zero]; rfl) HE.nil) rfl fun i γ1 hi => ?_
 try dsimp only [List.cons_append, List.nil_append]
 refine x5x fun K2 hK2 => ?_
 refine x4x x6x (by rfl) ?_
 refine x1x rfl ?_
 refine x1x rfl ?_
 refine a1v (n := l.length) rfl v7v rfl rfl (by rw [List.length_append, List.length_map, List.length_map, List.length_take, List.length_drop]; omega) ?_
 refine y1y rfl rfl rfl ?_
 refine x8x rfl (fun hc3 => ?_) (fun hc3 => ?_)
 rotate_left
 ·try simp at hc3
  obtain rfl : i = l.length := by omega
  refine v0v ?_
  refine hK1 _ _ ?_
  clear hK2 K2 hK1 K1
  refine x4x x6x (by rfl) ?_
  refine x1x rfl ?_
  refine x2x rfl ?_
  refine y0y ?_
  exact ⟨.inr rfl, [γ 0], rfl, congrArg (fun v : Nat => some [AV.pv (.int .i64 (v : Int))]) (by rw [List.take_length]), HE.row rfl (by rw [List.take_of_length_le (by omega), List.drop_length, List.map_nil, List.append_nil]) HE.nil⟩
 try simp at hc3
 obtain ⟨p, hp⟩ : ∃ p, l[i]? = some p := ⟨_, List.getElem?_eq_getElem (by omega)⟩
 have hmk := a3q zI kI (k := k) hp
 have hat := a1z zI hp
 have hzp : zI p = 1 := rfl
 have hAl : (((mks zI kI k l).take i).map a0x).length = i := by rw [List.length_map, List.length_take]; omega
 rw [q1q hp, List.map_cons]
 rw [show a0x p = [pI p] from rfl]
 obtain ⟨q, hq⟩ : ∃ q, q = k + szs zI (l.take i) := ⟨_, rfl⟩
 rw [← hq] at hmk ⊢
 refine x9x ?_
 refine hK2 _ _ ?_
 clear hK2 K2
 refine x5x fun K4 hK4 => ?_
 refine y7y ?_
 refine x4x x6x (by rfl) ?_
 refine x1x rfl ?_
 refine x1x rfl ?_
 refine x1x rfl ?_
 refine q0q rfl rfl v7v rfl y6y rfl rfl hAl ?_
 refine p3p hAl rfl rfl y6y rfl rfl rfl rfl rfl rfl rfl (by simp only [List.set_cons_zero, List.set_cons_succ]; rfl) ?_
 refine y3y x6x (by rfl) ?_
 refine x1x rfl ?_
 refine z9z (b := 1) rfl rfl (by omega) ?_
 refine x2x rfl ?_
 refine hK4 _ _ ?_
 clear hK4 K4
 refine y3y x6x (by rfl) ?_
 refine x1x rfl ?_
 refine z9z (b := 1) rfl rfl (by omega) ?_
 refine x2x rfl ?_
 exact ⟨i + 1, ⟨by omega, by omega⟩, [], (Cov.cons' (t := 1) rfl (by rw [s3s zI hp]; exact congrArg (fun v : Nat => AV.pv (.int .i64 (v : Int))) (by omega)) (Cov.cons (t := 5) rfl Cov.nil)), (Cov.cons (t := 0) rfl Cov.nil), (HE.row rfl (by rw [p0p hmk, List.map_append, List.append_assoc]; rfl) HE.nil), HE.nil, rfl⟩
theorem a1r (l : List Ev) (k : Nat) (hk : k + szs zEv l ≤ 1000000000) : Meth Tryz.prog 56 1 [0] [.ref 0 0, .pv (.int .i64 (k : Int))] [(0, (0, .row 76 7 (l.map v6v)))] (.pv (.int .i64 ((k + szs zEv l : Nat) : Int))) [(0, (0, .row 76 7 ((mks zEv kEv k l).map v6v)))] := by
 refine u9u x6x (fn := Tryz.f56) (by kernel_rfl) (by kernel_rfl) rfl (O0 := [.pv (.int .i64 ((k + szs zEv l : Nat) : Int))]) 1 0 (Nat.le_of_ble_eq_true rfl) (by rfl) (by repeat (first | exact BndH.nil | refine BndH.row (u3u fun _ => rfl) ?_)) (by repeat (first | exact BndH.nil | refine BndH.row (u3u fun _ => rfl) ?_)) (by rfl) fun γ => ?_
 show Ex Tryz.prog _ _ [(0, .ref 0 (γ 0)), (1, .pv (.int .i64 (k : Int)))] [(0, ((γ 0), .row 76 7 (l.map v6v)))] _
 have hml := a3o zEv kEv k l
 have hll := a3p zEv (fun p => by unfold zEv; omega) l
 refine x4x x6x (by rfl) ?_
 refine x2x rfl ?_
 refine x5x fun K1 hK1 => ?_
 refine x4x x6x (by rfl) ?_
 refine x2x rfl ?_
 refine y7y ?_
 refine u5u (ι := Nat) (fun i γ1 => [(1, .pv (.int .i64 ((k + szs zEv (l.take i) : Nat) : Int))), (5, .pv (.int .i64 (i : Int)))]) (fun i γ1 => [(0, ((γ 0), .row 76 7 (((mks zEv kEv k l).take i).map v6v ++ (l.drop i).map v6v)))]) (fun i => i ≤ l.length) (fun i => l.length - i) (Cov.cons (t := 0) rfl Cov.nil) HE.nil 0 (by omega) [] (Cov.cons' (t := 1) rfl (by rw [List.take_zero]; rfl) (Cov.cons (t := 5) rfl Cov.nil)) (HE.row rfl (by rw [List.take_zero, List.drop_zero]; rfl) HE.nil) rfl fun i γ1 hi => ?_
 try dsimp only [List.cons_append, List.nil_append]
 refine x5x fun K2 hK2 => ?_
 refine x4x x6x (by rfl) ?_
 refine x1x rfl ?_
 refine x1x rfl ?_
 refine a1v (n := l.length) rfl u7u rfl rfl (by rw [List.length_append, List.length_map, List.length_map, List.length_take, List.length_drop]; omega) ?_
 refine y1y rfl rfl rfl ?_
 refine x8x rfl (fun hc3 => ?_) (fun hc3 => ?_)
 rotate_left
 ·try simp at hc3
  obtain rfl : i = l.length := by omega
  refine v0v ?_
  refine hK1 _ _ ?_
  clear hK2 K2 hK1 K1
  refine x4x x6x (by rfl) ?_
  refine x1x rfl ?_
  refine x2x rfl ?_
  refine y0y ?_
  exact ⟨.inr rfl, [γ 0], rfl, congrArg (fun v : Nat => some [AV.pv (.int .i64 (v : Int))]) (by rw [List.take_length]), HE.row rfl (by rw [List.take_of_length_le (by omega), List.drop_length, List.map_nil, List.append_nil]) HE.nil⟩
 try simp at hc3
 obtain ⟨p, hp⟩ : ∃ p, l[i]? = some p := ⟨_, List.getElem?_eq_getElem (by omega)⟩
 have hmk := a3q zEv kEv (k := k) hp
 have hat := a1z zEv hp
 have hzp : zEv p = 7 := rfl
 have hAl : (((mks zEv kEv k l).take i).map v6v).length = i := by rw [List.length_map, List.length_take]; omega
 rw [q1q hp, List.map_cons]
 rw [show v6v p = [pI p.time, pI p.to, pI p.from', pI p.count, pI p.n, pI p.kind, pI p.arg] from rfl]
 obtain ⟨q, hq⟩ : ∃ q, q = k + szs zEv (l.take i) := ⟨_, rfl⟩
 rw [← hq] at hmk ⊢
 refine x9x ?_
 refine hK2 _ _ ?_
 clear hK2 K2
 refine x5x fun K4 hK4 => ?_
 refine y7y ?_
 refine x4x x6x (by rfl) ?_
 refine x1x rfl ?_
 refine x1x rfl ?_
 refine x1x rfl ?_
 refine q0q rfl rfl u7u rfl z3z rfl rfl hAl ?_
 refine x0x rfl z3z rfl rfl y6y rfl rfl ?_
 refine p3p hAl rfl rfl y6y rfl rfl rfl rfl rfl rfl rfl (by simp only [List.set_cons_zero, List.set_cons_succ]; rfl) ?_
 refine x4x x6x (by rfl) ?_
 refine x1x rfl ?_
 refine z9z (b := 1) rfl rfl (by omega) ?_
 refine x2x rfl ?_
 refine x4x x6x (by rfl) ?_
 refine x1x rfl ?_
 refine x1x rfl ?_
 refine x1x rfl ?_
 refine q0q rfl rfl u7u rfl z3z rfl rfl hAl ?_
 refine x0x rfl z3z rfl rfl y6y rfl rfl ?_
 refine p3p hAl rfl rfl y6y rfl rfl rfl rfl rfl rfl rfl (by simp only [List.set_cons_zero, List.set_cons_succ]; rfl) ?_
 refine x4x x6x (by rfl) ?_
 refine x1x rfl ?_
 refine z9z (b := 1) rfl rfl (by omega) ?_
 refine x2x rfl ?_
 refine x4x x6x (by rfl) ?_
 refine x1x rfl ?_
 refine x1x rfl ?_
 refine x1x rfl ?_
 refine q0q rfl rfl u7u rfl z3z rfl rfl hAl ?_
 refine x0x rfl z3z rfl rfl y6y rfl rfl ?_
 refine p3p hAl rfl rfl y6y rfl rfl rfl rfl rfl rfl rfl (by simp only [List.set_cons_zero, List.set_cons_succ]; rfl) ?_
 refine x4x x6x (by rfl) ?_
 refine x1x rfl ?_
 refine z9z (b := 1) rfl rfl (by omega) ?_
 refine x2x rfl ?_
 refine x4x x6x (by rfl) ?_
 refine x1x rfl ?_
 refine x1x rfl ?_
 refine x1x rfl ?_
 refine q0q rfl rfl u7u rfl z3z rfl rfl hAl ?_
 refine x0x rfl z3z rfl rfl y6y rfl rfl ?_
 refine p3p hAl rfl rfl y6y rfl rfl rfl rfl rfl rfl rfl (by simp only [List.set_cons_zero, List.set_cons_succ]; rfl) ?_
 refine x4x x6x (by rfl) ?_
 refine x1x rfl ?_
 refine z9z (b := 1) rfl rfl (by omega) ?_
 refine x2x rfl ?_
 refine x4x x6x (by rfl) ?_
 refine x1x rfl ?_
 refine x1x rfl ?_
 refine x1x rfl ?_
 refine q0q rfl rfl u7u rfl z3z rfl rfl hAl ?_
 refine x0x rfl z3z rfl rfl y6y rfl rfl ?_
 refine p3p hAl rfl rfl y6y rfl rfl rfl rfl rfl rfl rfl (by simp only [List.set_cons_zero, List.set_cons_succ]; rfl) ?_
 refine x4x x6x (by rfl) ?_
 refine x1x rfl ?_
 refine z9z (b := 1) rfl rfl (by omega) ?_
 refine x2x rfl ?_
 refine x4x x6x (by rfl) ?_
 refine x1x rfl ?_
 refine x1x rfl ?_
 refine x1x rfl ?_
 refine q0q rfl rfl u7u rfl z3z rfl rfl hAl ?_
 refine x0x rfl z3z rfl rfl y6y rfl rfl ?_
 refine p3p hAl rfl rfl y6y rfl rfl rfl rfl rfl rfl rfl (by simp only [List.set_cons_zero, List.set_cons_succ]; rfl) ?_
 refine x4x x6x (by rfl) ?_
 refine x1x rfl ?_
 refine z9z (b := 1) rfl rfl (by omega) ?_
 refine x2x rfl ?_
 refine x4x x6x (by rfl) ?_
 refine x1x rfl ?_
 refine x1x rfl ?_
 refine x1x rfl ?_
 refine q0q rfl rfl u7u rfl z3z rfl rfl hAl ?_
 refine x0x rfl z3z rfl rfl y6y rfl rfl ?_
 refine p3p hAl rfl rfl y6y rfl rfl rfl rfl rfl rfl rfl (by simp only [List.set_cons_zero, List.set_cons_succ]; rfl) ?_
 refine y3y x6x (by rfl) ?_
 refine x1x rfl ?_
 refine z9z (b := 1) rfl rfl (by omega) ?_
 refine x2x rfl ?_
 refine hK4 _ _ ?_
 clear hK4 K4
 refine y3y x6x (by rfl) ?_
 refine x1x rfl ?_
 refine z9z (b := 1) rfl rfl (by omega) ?_
 refine x2x rfl ?_
 exact ⟨i + 1, ⟨by omega, by omega⟩, [], (Cov.cons' (t := 1) rfl (by rw [s3s zEv hp]; exact congrArg (fun v : Nat => AV.pv (.int .i64 (v : Int))) (by omega)) (Cov.cons (t := 5) rfl Cov.nil)), (Cov.cons (t := 0) rfl Cov.nil), (HE.row rfl (by rw [p0p hmk, List.map_append, List.append_assoc]; rfl) HE.nil), HE.nil, rfl⟩
theorem a4u (l : List Ou) (k : Nat) (hk : k + szs zOu l ≤ 1000000000) : Meth Tryz.prog 88 1 [0] [.ref 0 0, .pv (.int .i64 (k : Int))] [(0, (0, .row 104 5 (l.map s2s)))] (.pv (.int .i64 ((k + szs zOu l : Nat) : Int))) [(0, (0, .row 104 5 ((mks zOu kOu k l).map s2s)))] := by
 refine u9u x6x (fn := Tryz.f88) (by kernel_rfl) (by kernel_rfl) rfl (O0 := [.pv (.int .i64 ((k + szs zOu l : Nat) : Int))]) 1 0 (Nat.le_of_ble_eq_true rfl) (by rfl) (by repeat (first | exact BndH.nil | refine BndH.row (u3u fun _ => rfl) ?_)) (by repeat (first | exact BndH.nil | refine BndH.row (u3u fun _ => rfl) ?_)) (by rfl) fun γ => ?_
 show Ex Tryz.prog _ _ [(0, .ref 0 (γ 0)), (1, .pv (.int .i64 (k : Int)))] [(0, ((γ 0), .row 104 5 (l.map s2s)))] _
 have hml := a3o zOu kOu k l
 have hll := a3p zOu (fun p => by unfold zOu; omega) l
 refine x4x x6x (by rfl) ?_
 refine x2x rfl ?_
 refine x5x fun K1 hK1 => ?_
 refine x4x x6x (by rfl) ?_
 refine x2x rfl ?_
 refine y7y ?_
 refine u5u (ι := Nat) (fun i γ1 => [(1, .pv (.int .i64 ((k + szs zOu (l.take i) : Nat) : Int))), (5, .pv (.int .i64 (i : Int)))]) (fun i γ1 => [(0, ((γ 0), .row 104 5 (((mks zOu kOu k l).take i).map s2s ++ (l.drop i).map s2s)))]) (fun i => i ≤ l.length) (fun i => l.length - i) (Cov.cons (t := 0) rfl Cov.nil) HE.nil 0 (by omega) [] (Cov.cons' (t := 1) rfl (by rw [List.take_zero]; rfl) (Cov.cons (t := 5) rfl Cov.nil)) (HE.row rfl (by rw [List.take_zero, List.drop_zero]; rfl) HE.nil) rfl fun i γ1 hi => ?_
 try dsimp only [List.cons_append, List.nil_append]
 refine x5x fun K2 hK2 => ?_
 refine x4x x6x (by rfl) ?_
 refine x1x rfl ?_
 refine x1x rfl ?_
 refine a1v (n := l.length) rfl w6w rfl rfl (by rw [List.length_append, List.length_map, List.length_map, List.length_take, List.length_drop]; omega) ?_
 refine y1y rfl rfl rfl ?_
 refine x8x rfl (fun hc3 => ?_) (fun hc3 => ?_)
 rotate_left
 ·try simp at hc3
  obtain rfl : i = l.length := by omega
  refine v0v ?_
  refine hK1 _ _ ?_
  clear hK2 K2 hK1 K1
  refine x4x x6x (by rfl) ?_
  refine x1x rfl ?_
  refine x2x rfl ?_
  refine y0y ?_
  exact ⟨.inr rfl, [γ 0], rfl, congrArg (fun v : Nat => some [AV.pv (.int .i64 (v : Int))]) (by rw [List.take_length]), HE.row rfl (by rw [List.take_of_length_le (by omega), List.drop_length, List.map_nil, List.append_nil]) HE.nil⟩
 try simp at hc3
 obtain ⟨p, hp⟩ : ∃ p, l[i]? = some p := ⟨_, List.getElem?_eq_getElem (by omega)⟩
 have hmk := a3q zOu kOu (k := k) hp
 have hat := a1z zOu hp
 have hzp : zOu p = 5 := rfl
 have hAl : (((mks zOu kOu k l).take i).map s2s).length = i := by rw [List.length_map, List.length_take]; omega
 rw [q1q hp, List.map_cons]
 rw [show s2s p = [pI p.time, pI p.proc, pI p.count, pI p.n, pI p.value] from rfl]
 obtain ⟨q, hq⟩ : ∃ q, q = k + szs zOu (l.take i) := ⟨_, rfl⟩
 rw [← hq] at hmk ⊢
 refine x9x ?_
 refine hK2 _ _ ?_
 clear hK2 K2
 refine x5x fun K4 hK4 => ?_
 refine y7y ?_
 refine x4x x6x (by rfl) ?_
 refine x1x rfl ?_
 refine x1x rfl ?_
 refine x1x rfl ?_
 refine q0q rfl rfl w6w rfl v2v rfl rfl hAl ?_
 refine x0x rfl v2v rfl rfl y6y rfl rfl ?_
 refine p3p hAl rfl rfl y6y rfl rfl rfl rfl rfl rfl rfl (by simp only [List.set_cons_zero, List.set_cons_succ]; rfl) ?_
 refine x4x x6x (by rfl) ?_
 refine x1x rfl ?_
 refine z9z (b := 1) rfl rfl (by omega) ?_
 refine x2x rfl ?_
 refine x4x x6x (by rfl) ?_
 refine x1x rfl ?_
 refine x1x rfl ?_
 refine x1x rfl ?_
 refine q0q rfl rfl w6w rfl v2v rfl rfl hAl ?_
 refine x0x rfl v2v rfl rfl y6y rfl rfl ?_
 refine p3p hAl rfl rfl y6y rfl rfl rfl rfl rfl rfl rfl (by simp only [List.set_cons_zero, List.set_cons_succ]; rfl) ?_
 refine x4x x6x (by rfl) ?_
 refine x1x rfl ?_
 refine z9z (b := 1) rfl rfl (by omega) ?_
 refine x2x rfl ?_
 refine x4x x6x (by rfl) ?_
 refine x1x rfl ?_
 refine x1x rfl ?_
 refine x1x rfl ?_
 refine q0q rfl rfl w6w rfl v2v rfl rfl hAl ?_
 refine x0x rfl v2v rfl rfl y6y rfl rfl ?_
 refine p3p hAl rfl rfl y6y rfl rfl rfl rfl rfl rfl rfl (by simp only [List.set_cons_zero, List.set_cons_succ]; rfl) ?_
 refine x4x x6x (by rfl) ?_
 refine x1x rfl ?_
 refine z9z (b := 1) rfl rfl (by omega) ?_
 refine x2x rfl ?_
 refine x4x x6x (by rfl) ?_
 refine x1x rfl ?_
 refine x1x rfl ?_
 refine x1x rfl ?_
 refine q0q rfl rfl w6w rfl v2v rfl rfl hAl ?_
 refine x0x rfl v2v rfl rfl y6y rfl rfl ?_
 refine p3p hAl rfl rfl y6y rfl rfl rfl rfl rfl rfl rfl (by simp only [List.set_cons_zero, List.set_cons_succ]; rfl) ?_
 refine x4x x6x (by rfl) ?_
 refine x1x rfl ?_
 refine z9z (b := 1) rfl rfl (by omega) ?_
 refine x2x rfl ?_
 refine x4x x6x (by rfl) ?_
 refine x1x rfl ?_
 refine x1x rfl ?_
 refine x1x rfl ?_
 refine q0q rfl rfl w6w rfl v2v rfl rfl hAl ?_
 refine x0x rfl v2v rfl rfl y6y rfl rfl ?_
 refine p3p hAl rfl rfl y6y rfl rfl rfl rfl rfl rfl rfl (by simp only [List.set_cons_zero, List.set_cons_succ]; rfl) ?_
 refine y3y x6x (by rfl) ?_
 refine x1x rfl ?_
 refine z9z (b := 1) rfl rfl (by omega) ?_
 refine x2x rfl ?_
 refine hK4 _ _ ?_
 clear hK4 K4
 refine y3y x6x (by rfl) ?_
 refine x1x rfl ?_
 refine z9z (b := 1) rfl rfl (by omega) ?_
 refine x2x rfl ?_
 exact ⟨i + 1, ⟨by omega, by omega⟩, [], (Cov.cons' (t := 1) rfl (by rw [s3s zOu hp]; exact congrArg (fun v : Nat => AV.pv (.int .i64 (v : Int))) (by omega)) (Cov.cons (t := 5) rfl Cov.nil)), (Cov.cons (t := 0) rfl Cov.nil), (HE.row rfl (by rw [p0p hmk, List.map_append, List.append_assoc]; rfl) HE.nil), HE.nil, rfl⟩
theorem b3a (l : List Pa) (k : Nat) (hk : k + szs zPa l ≤ 1000000000) : Meth Tryz.prog 179 1 [0] [.ref 0 0, .pv (.int .i64 (k : Int))] [(0, (0, .row 78 12 (l.map a1u)))] (.pv (.int .i64 ((k + szs zPa l : Nat) : Int))) [(0, (0, .row 78 12 ((mks zPa kPa k l).map a1u)))] := by
 refine u9u x6x (fn := Tryz.f179) (by kernel_rfl) (by kernel_rfl) rfl (O0 := [.pv (.int .i64 ((k + szs zPa l : Nat) : Int))]) 1 1 (Nat.le_of_ble_eq_true rfl) (by rfl) (by repeat (first | exact BndH.nil | refine BndH.row (u3u fun _ => rfl) ?_)) (by repeat (first | exact BndH.nil | refine BndH.row (u3u fun _ => rfl) ?_)) (by rfl) fun γ => ?_
 show Ex Tryz.prog _ _ [(0, .ref 0 (γ 0)), (1, .pv (.int .i64 (k : Int)))] [(0, ((γ 0), .row 78 12 (l.map a1u))), (1, (0, .dead))] _
 have hml := a3o zPa kPa k l
 have hll := a3p zPa (fun p => by unfold zPa; omega) l
 refine x4x x6x (by rfl) ?_
 refine x2x rfl ?_
 refine x5x fun K1 hK1 => ?_
 refine x4x x6x (by rfl) ?_
 refine x2x rfl ?_
 refine y7y ?_
 refine u5u (ι := Nat) (fun i γ1 => [(1, .pv (.int .i64 ((k + szs zPa (l.take i) : Nat) : Int))), (5, .pv (.int .i64 (i : Int)))]) (fun i γ1 => [(1, ((γ1 1), .dead)), (0, ((γ 0), .row 78 12 (((mks zPa kPa k l).take i).map a1u ++ (l.drop i).map a1u)))]) (fun i => i ≤ l.length) (fun i => l.length - i) (Cov.cons (t := 0) rfl Cov.nil) HE.nil 0 (by omega) [0, _] (Cov.cons' (t := 1) rfl (by rw [List.take_zero]; rfl) (Cov.cons (t := 5) rfl Cov.nil)) (HE.kill rfl (HE.row rfl (by rw [List.take_zero, List.drop_zero]; rfl) HE.nil)) rfl fun i γ1 hi => ?_
 try dsimp only [List.cons_append, List.nil_append]
 refine x5x fun K2 hK2 => ?_
 refine x4x x6x (by rfl) ?_
 refine x1x rfl ?_
 refine x1x rfl ?_
 refine a1v (n := l.length) rfl v9v rfl rfl (by rw [List.length_append, List.length_map, List.length_map, List.length_take, List.length_drop]; omega) ?_
 refine y1y rfl rfl rfl ?_
 refine x8x rfl (fun hc3 => ?_) (fun hc3 => ?_)
 rotate_left
 ·try simp at hc3
  obtain rfl : i = l.length := by omega
  refine v0v ?_
  refine hK1 _ _ ?_
  clear hK2 K2 hK1 K1
  refine x4x x6x (by rfl) ?_
  refine x1x rfl ?_
  refine x2x rfl ?_
  refine y0y ?_
  exact ⟨.inr rfl, [γ 0], rfl, congrArg (fun v : Nat => some [AV.pv (.int .i64 (v : Int))]) (by rw [List.take_length]), HE.row rfl (by rw [List.take_of_length_le (by omega), List.drop_length, List.map_nil, List.append_nil]) HE.nil⟩
 try simp at hc3
 obtain ⟨p, hp⟩ : ∃ p, l[i]? = some p := ⟨_, List.getElem?_eq_getElem (by omega)⟩
 have hmk := a3q zPa kPa (k := k) hp
 have hat := a1z zPa hp
 have hzp : zPa p = 10 + szs zEv p.sends + szs zOu p.outs := rfl
 have hAl : (((mks zPa kPa k l).take i).map a1u).length = i := by rw [List.length_map, List.length_take]; omega
 rw [q1q hp, List.map_cons]
 rw [show a1u p = [pI p.ev.time, pI p.ev.to, pI p.ev.from', pI p.ev.count, pI p.ev.n, pI p.ev.kind, pI p.ev.arg, pI p.after.x, pI p.after.y, pI p.after.count, .row .ow 76 7 (p.sends.map v6v), .row .ow 104 5 (p.outs.map s2s)] from rfl]
 obtain ⟨q, hq⟩ : ∃ q, q = k + szs zPa (l.take i) := ⟨_, rfl⟩
 rw [← hq] at hmk ⊢
 refine x9x ?_
 refine hK2 _ _ ?_
 clear hK2 K2
 refine x5x fun K4 hK4 => ?_
 refine y7y ?_
 refine x4x x6x (by rfl) ?_
 refine x1x rfl ?_
 refine x1x rfl ?_
 refine x1x rfl ?_
 refine q0q rfl rfl v9v rfl v8v rfl rfl hAl ?_
 refine x0x rfl v8v rfl rfl z3z rfl rfl ?_
 refine x0x rfl z3z rfl rfl y6y rfl rfl ?_
 refine p3p hAl rfl rfl y6y rfl rfl rfl rfl rfl rfl rfl (by simp only [List.set_cons_zero, List.set_cons_succ]; rfl) ?_
 refine x4x x6x (by rfl) ?_
 refine x1x rfl ?_
 refine z9z (b := 1) rfl rfl (by omega) ?_
 refine x2x rfl ?_
 refine x4x x6x (by rfl) ?_
 refine x1x rfl ?_
 refine x1x rfl ?_
 refine x1x rfl ?_
 refine q0q rfl rfl v9v rfl v8v rfl rfl hAl ?_
 refine x0x rfl v8v rfl rfl z3z rfl rfl ?_
 refine x0x rfl z3z rfl rfl y6y rfl rfl ?_
 refine p3p hAl rfl rfl y6y rfl rfl rfl rfl rfl rfl rfl (by simp only [List.set_cons_zero, List.set_cons_succ]; rfl) ?_
 refine x4x x6x (by rfl) ?_
 refine x1x rfl ?_
 refine z9z (b := 1) rfl rfl (by omega) ?_
 refine x2x rfl ?_
 refine x4x x6x (by rfl) ?_
 refine x1x rfl ?_
 refine x1x rfl ?_
 refine x1x rfl ?_
 refine q0q rfl rfl v9v rfl v8v rfl rfl hAl ?_
 refine x0x rfl v8v rfl rfl z3z rfl rfl ?_
 refine x0x rfl z3z rfl rfl y6y rfl rfl ?_
 refine p3p hAl rfl rfl y6y rfl rfl rfl rfl rfl rfl rfl (by simp only [List.set_cons_zero, List.set_cons_succ]; rfl) ?_
 refine x4x x6x (by rfl) ?_
 refine x1x rfl ?_
 refine z9z (b := 1) rfl rfl (by omega) ?_
 refine x2x rfl ?_
 refine x4x x6x (by rfl) ?_
 refine x1x rfl ?_
 refine x1x rfl ?_
 refine x1x rfl ?_
 refine q0q rfl rfl v9v rfl v8v rfl rfl hAl ?_
 refine x0x rfl v8v rfl rfl z3z rfl rfl ?_
 refine x0x rfl z3z rfl rfl y6y rfl rfl ?_
 refine p3p hAl rfl rfl y6y rfl rfl rfl rfl rfl rfl rfl (by simp only [List.set_cons_zero, List.set_cons_succ]; rfl) ?_
 refine x4x x6x (by rfl) ?_
 refine x1x rfl ?_
 refine z9z (b := 1) rfl rfl (by omega) ?_
 refine x2x rfl ?_
 refine x4x x6x (by rfl) ?_
 refine x1x rfl ?_
 refine x1x rfl ?_
 refine x1x rfl ?_
 refine q0q rfl rfl v9v rfl v8v rfl rfl hAl ?_
 refine x0x rfl v8v rfl rfl z3z rfl rfl ?_
 refine x0x rfl z3z rfl rfl y6y rfl rfl ?_
 refine p3p hAl rfl rfl y6y rfl rfl rfl rfl rfl rfl rfl (by simp only [List.set_cons_zero, List.set_cons_succ]; rfl) ?_
 refine x4x x6x (by rfl) ?_
 refine x1x rfl ?_
 refine z9z (b := 1) rfl rfl (by omega) ?_
 refine x2x rfl ?_
 refine x4x x6x (by rfl) ?_
 refine x1x rfl ?_
 refine x1x rfl ?_
 refine x1x rfl ?_
 refine q0q rfl rfl v9v rfl v8v rfl rfl hAl ?_
 refine x0x rfl v8v rfl rfl z3z rfl rfl ?_
 refine x0x rfl z3z rfl rfl y6y rfl rfl ?_
 refine p3p hAl rfl rfl y6y rfl rfl rfl rfl rfl rfl rfl (by simp only [List.set_cons_zero, List.set_cons_succ]; rfl) ?_
 refine x4x x6x (by rfl) ?_
 refine x1x rfl ?_
 refine z9z (b := 1) rfl rfl (by omega) ?_
 refine x2x rfl ?_
 refine x4x x6x (by rfl) ?_
 refine x1x rfl ?_
 refine x1x rfl ?_
 refine x1x rfl ?_
 refine q0q rfl rfl v9v rfl v8v rfl rfl hAl ?_
 refine x0x rfl v8v rfl rfl z3z rfl rfl ?_
 refine x0x rfl z3z rfl rfl y6y rfl rfl ?_
 refine p3p hAl rfl rfl y6y rfl rfl rfl rfl rfl rfl rfl (by simp only [List.set_cons_zero, List.set_cons_succ]; rfl) ?_
 refine x4x x6x (by rfl) ?_
 refine x1x rfl ?_
 refine z9z (b := 1) rfl rfl (by omega) ?_
 refine x2x rfl ?_
 refine x4x x6x (by rfl) ?_
 refine x1x rfl ?_
 refine x1x rfl ?_
 refine x1x rfl ?_
 refine q0q rfl rfl v9v rfl v8v rfl rfl hAl ?_
 refine x0x rfl v8v rfl rfl q5q rfl rfl ?_
 refine x0x rfl q5q rfl rfl y6y rfl rfl ?_
 refine p3p hAl rfl rfl y6y rfl rfl rfl rfl rfl rfl rfl (by simp only [List.set_cons_zero, List.set_cons_succ]; rfl) ?_
 refine x4x x6x (by rfl) ?_
 refine x1x rfl ?_
 refine z9z (b := 1) rfl rfl (by omega) ?_
 refine x2x rfl ?_
 refine x4x x6x (by rfl) ?_
 refine x1x rfl ?_
 refine x1x rfl ?_
 refine x1x rfl ?_
 refine q0q rfl rfl v9v rfl v8v rfl rfl hAl ?_
 refine x0x rfl v8v rfl rfl q5q rfl rfl ?_
 refine x0x rfl q5q rfl rfl y6y rfl rfl ?_
 refine p3p hAl rfl rfl y6y rfl rfl rfl rfl rfl rfl rfl (by simp only [List.set_cons_zero, List.set_cons_succ]; rfl) ?_
 refine x4x x6x (by rfl) ?_
 refine x1x rfl ?_
 refine z9z (b := 1) rfl rfl (by omega) ?_
 refine x2x rfl ?_
 refine x4x x6x (by rfl) ?_
 refine x1x rfl ?_
 refine x1x rfl ?_
 refine x1x rfl ?_
 refine q0q rfl rfl v9v rfl v8v rfl rfl hAl ?_
 refine x0x rfl v8v rfl rfl q5q rfl rfl ?_
 refine x0x rfl q5q rfl rfl y6y rfl rfl ?_
 refine p3p hAl rfl rfl y6y rfl rfl rfl rfl rfl rfl rfl (by simp only [List.set_cons_zero, List.set_cons_succ]; rfl) ?_
 refine x4x x6x (by rfl) ?_
 refine x1x rfl ?_
 refine z9z (b := 1) rfl rfl (by omega) ?_
 refine x2x rfl ?_
 refine b1a 0 10 1 hAl rfl rfl rfl rfl rfl ?_
 refine x4x x6x (by rfl) ?_
 refine x1x rfl ?_
 refine x1x rfl ?_
 refine q0q rfl rfl v9v rfl v8v rfl rfl hAl ?_
 refine x0x rfl v8v rfl rfl u7u rfl rfl ?_
 refine b3q hAl rfl u7u rfl rfl ?_
 refine x1x rfl ?_
 refine v5v [1] [_] (a1r p.sends (q + 10) (by omega)) rfl rfl rfl (by decide) rfl rfl (by repeat (first | exact InH.nil | refine InH.cons rfl ?_)) (by (simp only [pI, List.map_cons, List.map_nil, u1u, u2u, gl, nx, q4q, Nat.beq, Nat.add_eq, List.getD_cons_zero, List.getD_cons_succ, List.getD_nil, Bool.or_false, Bool.false_or, Bool.true_or, Bool.or_true, Nat.add_zero, Nat.zero_add]; rfl)) (by (simp only [pI, List.map_cons, List.map_nil, u1u, u2u, gl, nx, q4q, Nat.beq, Nat.add_eq, List.getD_cons_zero, List.getD_cons_succ, List.getD_nil, Bool.or_false, Bool.false_or, Bool.true_or, Bool.or_true, Nat.add_zero, Nat.zero_add]; rfl)) ?_
 refine x2x rfl ?_
 refine b3r 0 10 1 hAl rfl rfl rfl (u3u fun _ => rfl) rfl rfl ?_
 refine b1a 0 11 1 hAl rfl rfl rfl rfl rfl ?_
 refine y3y x6x (by rfl) ?_
 refine x1x rfl ?_
 refine x1x rfl ?_
 refine q0q rfl rfl v9v rfl v8v rfl rfl hAl ?_
 refine x0x rfl v8v rfl rfl w6w rfl rfl ?_
 refine b3q hAl rfl w6w rfl rfl ?_
 refine x1x rfl ?_
 refine v5v [1] [_] (a4u p.outs (q + 10 + szs zEv p.sends) (by omega)) rfl rfl rfl (by decide) rfl rfl (by repeat (first | exact InH.nil | refine InH.cons rfl ?_)) (by (simp only [pI, List.map_cons, List.map_nil, u1u, u2u, gl, nx, q4q, Nat.beq, Nat.add_eq, List.getD_cons_zero, List.getD_cons_succ, List.getD_nil, Bool.or_false, Bool.false_or, Bool.true_or, Bool.or_true, Nat.add_zero, Nat.zero_add]; rfl)) (by (simp only [pI, List.map_cons, List.map_nil, u1u, u2u, gl, nx, q4q, Nat.beq, Nat.add_eq, List.getD_cons_zero, List.getD_cons_succ, List.getD_nil, Bool.or_false, Bool.false_or, Bool.true_or, Bool.or_true, Nat.add_zero, Nat.zero_add]; rfl)) ?_
 refine x2x rfl ?_
 refine hK4 _ _ ?_
 clear hK4 K4
 refine b3r 0 11 1 hAl rfl rfl rfl (u3u fun _ => rfl) rfl rfl ?_
 refine y3y x6x (by rfl) ?_
 refine x1x rfl ?_
 refine z9z (b := 1) rfl rfl (by omega) ?_
 refine x2x rfl ?_
 exact ⟨i + 1, ⟨by omega, by omega⟩, [0, _], (Cov.cons' (t := 1) rfl (by rw [s3s zPa hp]; exact congrArg (fun v : Nat => AV.pv (.int .i64 (v : Int))) (by omega)) (Cov.cons (t := 5) rfl Cov.nil)), (Cov.cons (t := 0) rfl Cov.nil), (HE.kill rfl (HE.row rfl (by rw [p0p hmk, List.map_append, List.append_assoc]; rfl) HE.nil)), HE.nil, rfl⟩
theorem b3c (l : List La) (k : Nat) (hk : k + szs zLa l ≤ 1000000000) : Meth Tryz.prog 87 1 [0] [.ref 0 0, .pv (.int .i64 (k : Int))] [(0, (0, .row 65 5 (l.map a0u)))] (.pv (.int .i64 ((k + szs zLa l : Nat) : Int))) [(0, (0, .row 65 5 ((mks zLa kLa k l).map a0u)))] := by
 refine u9u x6x (fn := Tryz.f87) (by kernel_rfl) (by kernel_rfl) rfl (O0 := [.pv (.int .i64 ((k + szs zLa l : Nat) : Int))]) 1 1 (Nat.le_of_ble_eq_true rfl) (by rfl) (by repeat (first | exact BndH.nil | refine BndH.row (u3u fun _ => rfl) ?_)) (by repeat (first | exact BndH.nil | refine BndH.row (u3u fun _ => rfl) ?_)) (by rfl) fun γ => ?_
 show Ex Tryz.prog _ _ [(0, .ref 0 (γ 0)), (1, .pv (.int .i64 (k : Int)))] [(0, ((γ 0), .row 65 5 (l.map a0u))), (1, (0, .dead))] _
 have hml := a3o zLa kLa k l
 have hll := a3p zLa (fun p => by unfold zLa; omega) l
 refine x4x x6x (by rfl) ?_
 refine x2x rfl ?_
 refine x5x fun K1 hK1 => ?_
 refine x4x x6x (by rfl) ?_
 refine x2x rfl ?_
 refine y7y ?_
 refine u5u (ι := Nat) (fun i γ1 => [(1, .pv (.int .i64 ((k + szs zLa (l.take i) : Nat) : Int))), (5, .pv (.int .i64 (i : Int)))]) (fun i γ1 => [(1, ((γ1 1), .dead)), (0, ((γ 0), .row 65 5 (((mks zLa kLa k l).take i).map a0u ++ (l.drop i).map a0u)))]) (fun i => i ≤ l.length) (fun i => l.length - i) (Cov.cons (t := 0) rfl Cov.nil) HE.nil 0 (by omega) [0, _] (Cov.cons' (t := 1) rfl (by rw [List.take_zero]; rfl) (Cov.cons (t := 5) rfl Cov.nil)) (HE.kill rfl (HE.row rfl (by rw [List.take_zero, List.drop_zero]; rfl) HE.nil)) rfl fun i γ1 hi => ?_
 try dsimp only [List.cons_append, List.nil_append]
 refine x5x fun K2 hK2 => ?_
 refine x4x x6x (by rfl) ?_
 refine x1x rfl ?_
 refine x1x rfl ?_
 refine a1v (n := l.length) rfl w4w rfl rfl (by rw [List.length_append, List.length_map, List.length_map, List.length_take, List.length_drop]; omega) ?_
 refine y1y rfl rfl rfl ?_
 refine x8x rfl (fun hc3 => ?_) (fun hc3 => ?_)
 rotate_left
 ·try simp at hc3
  obtain rfl : i = l.length := by omega
  refine v0v ?_
  refine hK1 _ _ ?_
  clear hK2 K2 hK1 K1
  refine x4x x6x (by rfl) ?_
  refine x1x rfl ?_
  refine x2x rfl ?_
  refine y0y ?_
  exact ⟨.inr rfl, [γ 0], rfl, congrArg (fun v : Nat => some [AV.pv (.int .i64 (v : Int))]) (by rw [List.take_length]), HE.row rfl (by rw [List.take_of_length_le (by omega), List.drop_length, List.map_nil, List.append_nil]) HE.nil⟩
 try simp at hc3
 obtain ⟨p, hp⟩ : ∃ p, l[i]? = some p := ⟨_, List.getElem?_eq_getElem (by omega)⟩
 have hmk := a3q zLa kLa (k := k) hp
 have hat := a1z zLa hp
 have hzp : zLa p = 4 + szs zPa p.done := rfl
 have hAl : (((mks zLa kLa k l).take i).map a0u).length = i := by rw [List.length_map, List.length_take]; omega
 rw [q1q hp, List.map_cons]
 rw [show a0u p = [pI p.proc, pI p.base.x, pI p.base.y, pI p.base.count, .row .ow 78 12 (p.done.map a1u)] from rfl]
 obtain ⟨q, hq⟩ : ∃ q, q = k + szs zLa (l.take i) := ⟨_, rfl⟩
 rw [← hq] at hmk ⊢
 refine x9x ?_
 refine hK2 _ _ ?_
 clear hK2 K2
 refine x5x fun K4 hK4 => ?_
 refine y7y ?_
 refine x4x x6x (by rfl) ?_
 refine x1x rfl ?_
 refine x1x rfl ?_
 refine x1x rfl ?_
 refine q0q rfl rfl w4w rfl v4v rfl rfl hAl ?_
 refine x0x rfl v4v rfl rfl y6y rfl rfl ?_
 refine p3p hAl rfl rfl y6y rfl rfl rfl rfl rfl rfl rfl (by simp only [List.set_cons_zero, List.set_cons_succ]; rfl) ?_
 refine x4x x6x (by rfl) ?_
 refine x1x rfl ?_
 refine z9z (b := 1) rfl rfl (by omega) ?_
 refine x2x rfl ?_
 refine x4x x6x (by rfl) ?_
 refine x1x rfl ?_
 refine x1x rfl ?_
 refine x1x rfl ?_
 refine q0q rfl rfl w4w rfl v4v rfl rfl hAl ?_
 refine x0x rfl v4v rfl rfl q5q rfl rfl ?_
 refine x0x rfl q5q rfl rfl y6y rfl rfl ?_
 refine p3p hAl rfl rfl y6y rfl rfl rfl rfl rfl rfl rfl (by simp only [List.set_cons_zero, List.set_cons_succ]; rfl) ?_
 refine x4x x6x (by rfl) ?_
 refine x1x rfl ?_
 refine z9z (b := 1) rfl rfl (by omega) ?_
 refine x2x rfl ?_
 refine x4x x6x (by rfl) ?_
 refine x1x rfl ?_
 refine x1x rfl ?_
 refine x1x rfl ?_
 refine q0q rfl rfl w4w rfl v4v rfl rfl hAl ?_
 refine x0x rfl v4v rfl rfl q5q rfl rfl ?_
 refine x0x rfl q5q rfl rfl y6y rfl rfl ?_
 refine p3p hAl rfl rfl y6y rfl rfl rfl rfl rfl rfl rfl (by simp only [List.set_cons_zero, List.set_cons_succ]; rfl) ?_
 refine x4x x6x (by rfl) ?_
 refine x1x rfl ?_
 refine z9z (b := 1) rfl rfl (by omega) ?_
 refine x2x rfl ?_
 refine x4x x6x (by rfl) ?_
 refine x1x rfl ?_
 refine x1x rfl ?_
 refine x1x rfl ?_
 refine q0q rfl rfl w4w rfl v4v rfl rfl hAl ?_
 refine x0x rfl v4v rfl rfl q5q rfl rfl ?_
 refine x0x rfl q5q rfl rfl y6y rfl rfl ?_
 refine p3p hAl rfl rfl y6y rfl rfl rfl rfl rfl rfl rfl (by simp only [List.set_cons_zero, List.set_cons_succ]; rfl) ?_
 refine x4x x6x (by rfl) ?_
 refine x1x rfl ?_
 refine z9z (b := 1) rfl rfl (by omega) ?_
 refine x2x rfl ?_
 refine b1a 0 4 1 hAl rfl rfl rfl rfl rfl ?_
 refine y3y x6x (by rfl) ?_
 refine x1x rfl ?_
 refine x1x rfl ?_
 refine q0q rfl rfl w4w rfl v4v rfl rfl hAl ?_
 refine x0x rfl v4v rfl rfl v9v rfl rfl ?_
 refine b3q hAl rfl v9v rfl rfl ?_
 refine x1x rfl ?_
 refine v5v [1] [_] (b3a p.done (q + 4) (by omega)) rfl rfl rfl (by decide) rfl rfl (by repeat (first | exact InH.nil | refine InH.cons rfl ?_)) (by (simp only [pI, List.map_cons, List.map_nil, u1u, u2u, gl, nx, q4q, Nat.beq, Nat.add_eq, List.getD_cons_zero, List.getD_cons_succ, List.getD_nil, Bool.or_false, Bool.false_or, Bool.true_or, Bool.or_true, Nat.add_zero, Nat.zero_add]; rfl)) (by (simp only [pI, List.map_cons, List.map_nil, u1u, u2u, gl, nx, q4q, Nat.beq, Nat.add_eq, List.getD_cons_zero, List.getD_cons_succ, List.getD_nil, Bool.or_false, Bool.false_or, Bool.true_or, Bool.or_true, Nat.add_zero, Nat.zero_add]; rfl)) ?_
 refine x2x rfl ?_
 refine hK4 _ _ ?_
 clear hK4 K4
 refine b3r 0 4 1 hAl rfl rfl rfl (u3u fun _ => rfl) rfl rfl ?_
 refine y3y x6x (by rfl) ?_
 refine x1x rfl ?_
 refine z9z (b := 1) rfl rfl (by omega) ?_
 refine x2x rfl ?_
 exact ⟨i + 1, ⟨by omega, by omega⟩, [0, _], (Cov.cons' (t := 1) rfl (by rw [s3s zLa hp]; exact congrArg (fun v : Nat => AV.pv (.int .i64 (v : Int))) (by omega)) (Cov.cons (t := 5) rfl Cov.nil)), (Cov.cons (t := 0) rfl Cov.nil), (HE.kill rfl (HE.row rfl (by rw [p0p hmk, List.map_append, List.append_assoc]; rfl) HE.nil)), HE.nil, rfl⟩
theorem b3d (l : List Vi) (k : Nat) (hk : k + szs zVi l ≤ 1000000000) : Meth Tryz.prog 89 1 [0] [.ref 0 0, .pv (.int .i64 (k : Int))] [(0, (0, .row 141 3 (l.map a0v)))] (.pv (.int .i64 ((k + szs zVi l : Nat) : Int))) [(0, (0, .row 141 3 ((mks zVi kVi k l).map a0v)))] := by
 refine u9u x6x (fn := Tryz.f89) (by kernel_rfl) (by kernel_rfl) rfl (O0 := [.pv (.int .i64 ((k + szs zVi l : Nat) : Int))]) 1 1 (Nat.le_of_ble_eq_true rfl) (by rfl) (by repeat (first | exact BndH.nil | refine BndH.row (u3u fun _ => rfl) ?_)) (by repeat (first | exact BndH.nil | refine BndH.row (u3u fun _ => rfl) ?_)) (by rfl) fun γ => ?_
 show Ex Tryz.prog _ _ [(0, .ref 0 (γ 0)), (1, .pv (.int .i64 (k : Int)))] [(0, ((γ 0), .row 141 3 (l.map a0v))), (1, (0, .dead))] _
 have hml := a3o zVi kVi k l
 have hll := a3p zVi (fun p => by unfold zVi; omega) l
 refine x4x x6x (by rfl) ?_
 refine x2x rfl ?_
 refine x5x fun K1 hK1 => ?_
 refine x4x x6x (by rfl) ?_
 refine x2x rfl ?_
 refine y7y ?_
 refine u5u (ι := Nat) (fun i γ1 => [(1, .pv (.int .i64 ((k + szs zVi (l.take i) : Nat) : Int))), (5, .pv (.int .i64 (i : Int)))]) (fun i γ1 => [(1, ((γ1 1), .dead)), (0, ((γ 0), .row 141 3 (((mks zVi kVi k l).take i).map a0v ++ (l.drop i).map a0v)))]) (fun i => i ≤ l.length) (fun i => l.length - i) (Cov.cons (t := 0) rfl Cov.nil) HE.nil 0 (by omega) [0, _] (Cov.cons' (t := 1) rfl (by rw [List.take_zero]; rfl) (Cov.cons (t := 5) rfl Cov.nil)) (HE.kill rfl (HE.row rfl (by rw [List.take_zero, List.drop_zero]; rfl) HE.nil)) rfl fun i γ1 hi => ?_
 try dsimp only [List.cons_append, List.nil_append]
 refine x5x fun K2 hK2 => ?_
 refine x4x x6x (by rfl) ?_
 refine x1x rfl ?_
 refine x1x rfl ?_
 refine a1v (n := l.length) rfl p1p rfl rfl (by rw [List.length_append, List.length_map, List.length_map, List.length_take, List.length_drop]; omega) ?_
 refine y1y rfl rfl rfl ?_
 refine x8x rfl (fun hc3 => ?_) (fun hc3 => ?_)
 rotate_left
 ·try simp at hc3
  obtain rfl : i = l.length := by omega
  refine v0v ?_
  refine hK1 _ _ ?_
  clear hK2 K2 hK1 K1
  refine x4x x6x (by rfl) ?_
  refine x1x rfl ?_
  refine x2x rfl ?_
  refine y0y ?_
  exact ⟨.inr rfl, [γ 0], rfl, congrArg (fun v : Nat => some [AV.pv (.int .i64 (v : Int))]) (by rw [List.take_length]), HE.row rfl (by rw [List.take_of_length_le (by omega), List.drop_length, List.map_nil, List.append_nil]) HE.nil⟩
 try simp at hc3
 obtain ⟨p, hp⟩ : ∃ p, l[i]? = some p := ⟨_, List.getElem?_eq_getElem (by omega)⟩
 have hmk := a3q zVi kVi (k := k) hp
 have hat := a1z zVi hp
 have hzp : zVi p = 2 + szs zEv p.events := rfl
 have hAl : (((mks zVi kVi k l).take i).map a0v).length = i := by rw [List.length_map, List.length_take]; omega
 rw [q1q hp, List.map_cons]
 rw [show a0v p = [pI p.inc, pI p.version, .row .ow 76 7 (p.events.map v6v)] from rfl]
 obtain ⟨q, hq⟩ : ∃ q, q = k + szs zVi (l.take i) := ⟨_, rfl⟩
 rw [← hq] at hmk ⊢
 refine x9x ?_
 refine hK2 _ _ ?_
 clear hK2 K2
 refine x5x fun K4 hK4 => ?_
 refine y7y ?_
 refine x4x x6x (by rfl) ?_
 refine x1x rfl ?_
 refine x1x rfl ?_
 refine x1x rfl ?_
 refine q0q rfl rfl p1p rfl w0w rfl rfl hAl ?_
 refine x0x rfl w0w rfl rfl y6y rfl rfl ?_
 refine p3p hAl rfl rfl y6y rfl rfl rfl rfl rfl rfl rfl (by simp only [List.set_cons_zero, List.set_cons_succ]; rfl) ?_
 refine x4x x6x (by rfl) ?_
 refine x1x rfl ?_
 refine z9z (b := 1) rfl rfl (by omega) ?_
 refine x2x rfl ?_
 refine x4x x6x (by rfl) ?_
 refine x1x rfl ?_
 refine x1x rfl ?_
 refine x1x rfl ?_
 refine q0q rfl rfl p1p rfl w0w rfl rfl hAl ?_
 refine x0x rfl w0w rfl rfl y6y rfl rfl ?_
 refine p3p hAl rfl rfl y6y rfl rfl rfl rfl rfl rfl rfl (by simp only [List.set_cons_zero, List.set_cons_succ]; rfl) ?_
 refine x4x x6x (by rfl) ?_
 refine x1x rfl ?_
 refine z9z (b := 1) rfl rfl (by omega) ?_
 refine x2x rfl ?_
 refine b1a 0 2 1 hAl rfl rfl rfl rfl rfl ?_
 refine y3y x6x (by rfl) ?_
 refine x1x rfl ?_
 refine x1x rfl ?_
 refine q0q rfl rfl p1p rfl w0w rfl rfl hAl ?_
 refine x0x rfl w0w rfl rfl u7u rfl rfl ?_
 refine b3q hAl rfl u7u rfl rfl ?_
 refine x1x rfl ?_
 refine v5v [1] [_] (a1r p.events (q + 2) (by omega)) rfl rfl rfl (by decide) rfl rfl (by repeat (first | exact InH.nil | refine InH.cons rfl ?_)) (by (simp only [pI, List.map_cons, List.map_nil, u1u, u2u, gl, nx, q4q, Nat.beq, Nat.add_eq, List.getD_cons_zero, List.getD_cons_succ, List.getD_nil, Bool.or_false, Bool.false_or, Bool.true_or, Bool.or_true, Nat.add_zero, Nat.zero_add]; rfl)) (by (simp only [pI, List.map_cons, List.map_nil, u1u, u2u, gl, nx, q4q, Nat.beq, Nat.add_eq, List.getD_cons_zero, List.getD_cons_succ, List.getD_nil, Bool.or_false, Bool.false_or, Bool.true_or, Bool.or_true, Nat.add_zero, Nat.zero_add]; rfl)) ?_
 refine x2x rfl ?_
 refine hK4 _ _ ?_
 clear hK4 K4
 refine b3r 0 2 1 hAl rfl rfl rfl (u3u fun _ => rfl) rfl rfl ?_
 refine y3y x6x (by rfl) ?_
 refine x1x rfl ?_
 refine z9z (b := 1) rfl rfl (by omega) ?_
 refine x2x rfl ?_
 exact ⟨i + 1, ⟨by omega, by omega⟩, [0, _], (Cov.cons' (t := 1) rfl (by rw [s3s zVi hp]; exact congrArg (fun v : Nat => AV.pv (.int .i64 (v : Int))) (by omega)) (Cov.cons (t := 5) rfl Cov.nil)), (Cov.cons (t := 0) rfl Cov.nil), (HE.kill rfl (HE.row rfl (by rw [p0p hmk, List.map_append, List.append_assoc]; rfl) HE.nil)), HE.nil, rfl⟩
theorem a8g (n : Nd) (k : Nat) (hk : k + zNd n ≤ 1000000000) : Meth Tryz.prog 21 5 [0, 1, 2, 3, 4] [.agg [pI n.id, .pv (.bool n.up), pI n.inc, pI n.g, .ref 0 0, .ref 1 0, .ref 2 0, pI n.led, pI n.version, .ref 3 0, .ref 4 0, pI n.round, pI n.low], .pv (.int .i64 (k : Int))] [(0, (0, .row 65 5 (n.lanes.map a0u))), (1, (0, .row 76 7 (n.kept.map v6v))), (2, (0, .row 104 5 (n.outs.map s2s))), (3, (0, .row 141 3 (n.views.map a0v))), (4, (0, .row 3 1 (n.known.map a0x)))] (.pv (.int .i64 ((k + zNd n : Nat) : Int))) [(0, (0, .row 65 5 ((kNd k n).lanes.map a0u))), (1, (0, .row 76 7 ((kNd k n).kept.map v6v))), (2, (0, .row 104 5 ((kNd k n).outs.map s2s))), (3, (0, .row 141 3 ((kNd k n).views.map a0v))), (4, (0, .row 3 1 ((kNd k n).known.map a0x)))] := by
 refine u9u x6x (fn := Tryz.f21) (by kernel_rfl) (by kernel_rfl) rfl (O0 := [.pv (.int .i64 ((k + zNd n : Nat) : Int))]) 5 1 (Nat.le_of_ble_eq_true rfl) (by rfl) (by repeat (first | exact BndH.nil | refine BndH.row (u3u fun _ => rfl) ?_)) (by repeat (first | exact BndH.nil | refine BndH.row (u3u fun _ => rfl) ?_)) (by rfl) fun γ => ?_
 show Ex Tryz.prog _ _ [(0, .agg [pI n.id, .pv (.bool n.up), pI n.inc, pI n.g, .ref 0 (γ 0), .ref 1 (γ 1), .ref 2 (γ 2), pI n.led, pI n.version, .ref 3 (γ 3), .ref 4 (γ 4), pI n.round, pI n.low]), (1, .pv (.int .i64 (k : Int)))] [(0, ((γ 0), .row 65 5 (n.lanes.map a0u))), (1, ((γ 1), .row 76 7 (n.kept.map v6v))), (2, ((γ 2), .row 104 5 (n.outs.map s2s))), (3, ((γ 3), .row 141 3 (n.views.map a0v))), (4, ((γ 4), .row 3 1 (n.known.map a0x))), (5, (0, .dead))] _
 have hz : zNd n = szs zLa n.lanes + szs zEv n.kept + szs zOu n.outs + szs zVi n.views + szs zI n.known := rfl
 refine x4x x6x (by rfl) ?_
 refine v1v (id := 5) rfl rfl rfl ?_
 refine x2x rfl ?_
 refine x4x x6x (by rfl) ?_
 refine x0x rfl z8z rfl rfl w4w rfl rfl ?_
 refine x3x rfl w4w rfl rfl ?_
 refine x1x rfl ?_
 refine v5v [0] [_] (b3c n.lanes k (by omega)) rfl rfl rfl (by decide) rfl rfl (by repeat (first | exact InH.nil | refine InH.cons rfl ?_)) (by (simp only [pI, List.map_cons, List.map_nil, u1u, u2u, gl, nx, q4q, Nat.beq, Nat.add_eq, List.getD_cons_zero, List.getD_cons_succ, List.getD_nil, Bool.or_false, Bool.false_or, Bool.true_or, Bool.or_true, Nat.add_zero, Nat.zero_add]; rfl)) (by (simp only [pI, List.map_cons, List.map_nil, u1u, u2u, gl, nx, q4q, Nat.beq, Nat.add_eq, List.getD_cons_zero, List.getD_cons_succ, List.getD_nil, Bool.or_false, Bool.false_or, Bool.true_or, Bool.or_true, Nat.add_zero, Nat.zero_add]; rfl)) ?_
 refine x2x rfl ?_
 refine x4x x6x (by rfl) ?_
 refine x0x rfl z8z rfl rfl u7u rfl rfl ?_
 refine x3x rfl u7u rfl rfl ?_
 refine x1x rfl ?_
 refine v5v [1] [_] (a1r n.kept (k + szs zLa n.lanes) (by omega)) rfl rfl rfl (by decide) rfl rfl (by repeat (first | exact InH.nil | refine InH.cons rfl ?_)) (by (simp only [pI, List.map_cons, List.map_nil, u1u, u2u, gl, nx, q4q, Nat.beq, Nat.add_eq, List.getD_cons_zero, List.getD_cons_succ, List.getD_nil, Bool.or_false, Bool.false_or, Bool.true_or, Bool.or_true, Nat.add_zero, Nat.zero_add]; rfl)) (by (simp only [pI, List.map_cons, List.map_nil, u1u, u2u, gl, nx, q4q, Nat.beq, Nat.add_eq, List.getD_cons_zero, List.getD_cons_succ, List.getD_nil, Bool.or_false, Bool.false_or, Bool.true_or, Bool.or_true, Nat.add_zero, Nat.zero_add]; rfl)) ?_
 refine x2x rfl ?_
 refine x4x x6x (by rfl) ?_
 refine x0x rfl z8z rfl rfl w6w rfl rfl ?_
 refine x3x rfl w6w rfl rfl ?_
 refine x1x rfl ?_
 refine v5v [2] [_] (a4u n.outs (k + szs zLa n.lanes + szs zEv n.kept) (by omega)) rfl rfl rfl (by decide) rfl rfl (by repeat (first | exact InH.nil | refine InH.cons rfl ?_)) (by (simp only [pI, List.map_cons, List.map_nil, u1u, u2u, gl, nx, q4q, Nat.beq, Nat.add_eq, List.getD_cons_zero, List.getD_cons_succ, List.getD_nil, Bool.or_false, Bool.false_or, Bool.true_or, Bool.or_true, Nat.add_zero, Nat.zero_add]; rfl)) (by (simp only [pI, List.map_cons, List.map_nil, u1u, u2u, gl, nx, q4q, Nat.beq, Nat.add_eq, List.getD_cons_zero, List.getD_cons_succ, List.getD_nil, Bool.or_false, Bool.false_or, Bool.true_or, Bool.or_true, Nat.add_zero, Nat.zero_add]; rfl)) ?_
 refine x2x rfl ?_
 refine x4x x6x (by rfl) ?_
 refine x0x rfl z8z rfl rfl p1p rfl rfl ?_
 refine x3x rfl p1p rfl rfl ?_
 refine x1x rfl ?_
 refine v5v [3] [_] (b3d n.views (k + szs zLa n.lanes + szs zEv n.kept + szs zOu n.outs) (by omega)) rfl rfl rfl (by decide) rfl rfl (by repeat (first | exact InH.nil | refine InH.cons rfl ?_)) (by (simp only [pI, List.map_cons, List.map_nil, u1u, u2u, gl, nx, q4q, Nat.beq, Nat.add_eq, List.getD_cons_zero, List.getD_cons_succ, List.getD_nil, Bool.or_false, Bool.false_or, Bool.true_or, Bool.or_true, Nat.add_zero, Nat.zero_add]; rfl)) (by (simp only [pI, List.map_cons, List.map_nil, u1u, u2u, gl, nx, q4q, Nat.beq, Nat.add_eq, List.getD_cons_zero, List.getD_cons_succ, List.getD_nil, Bool.or_false, Bool.false_or, Bool.true_or, Bool.or_true, Nat.add_zero, Nat.zero_add]; rfl)) ?_
 refine x2x rfl ?_
 refine x4x x6x (by rfl) ?_
 refine x0x rfl z8z rfl rfl v7v rfl rfl ?_
 refine x3x rfl v7v rfl rfl ?_
 refine x1x rfl ?_
 refine v5v [4] [_] (a4t n.known (k + szs zLa n.lanes + szs zEv n.kept + szs zOu n.outs + szs zVi n.views) (by omega)) rfl rfl rfl (by decide) rfl rfl (by repeat (first | exact InH.nil | refine InH.cons rfl ?_)) (by (simp only [pI, List.map_cons, List.map_nil, u1u, u2u, gl, nx, q4q, Nat.beq, Nat.add_eq, List.getD_cons_zero, List.getD_cons_succ, List.getD_nil, Bool.or_false, Bool.false_or, Bool.true_or, Bool.or_true, Nat.add_zero, Nat.zero_add]; rfl)) (by (simp only [pI, List.map_cons, List.map_nil, u1u, u2u, gl, nx, q4q, Nat.beq, Nat.add_eq, List.getD_cons_zero, List.getD_cons_succ, List.getD_nil, Bool.or_false, Bool.false_or, Bool.true_or, Bool.or_true, Nat.add_zero, Nat.zero_add]; rfl)) ?_
 refine x2x rfl ?_
 refine x4x x6x (by rfl) ?_
 refine x1x rfl ?_
 refine x2x rfl ?_
 refine y0y ?_
 exact ⟨.inr rfl, [γ 0, γ 1, γ 2, γ 3, γ 4], rfl, congrArg (fun v : Nat => some [AV.pv (.int .i64 (v : Int))]) (by omega), HE.row rfl rfl (HE.row rfl rfl (HE.row rfl rfl (HE.row rfl rfl (HE.row rfl rfl HE.nil))))⟩
end
section
theorem a9g (a b : Ev) : s8s Tryz.prog 142 [.agg (v6v a), .agg (v6v b)] (.pv (.bool (decide (a = b)))) := by
 refine z1z x6x (fn := Tryz.f142) (by kernel_rfl) (by kernel_rfl) rfl (outs := [.pv (.bool (decide (a = b)))]) (by rfl) (Nat.le_of_ble_eq_true rfl) 2 ?_
 refine x4x x6x (by rfl) ?_
 refine v1v (id := 0) rfl rfl rfl ?_
 refine v1v (id := 1) rfl rfl rfl ?_
 refine x2x rfl ?_
 refine x5x fun K1 hK1 => ?_
 refine x4x x6x (by rfl) ?_
 refine x0x rfl z3z rfl rfl y6y rfl rfl ?_
 refine x3x rfl y6y rfl rfl ?_
 refine x0x rfl z3z rfl rfl y6y rfl rfl ?_
 refine x3x rfl y6y rfl rfl ?_
 refine y1y rfl rfl rfl ?_
 refine x8x rfl (fun hc2 => ?_) (fun hc2 => ?_)
 ·try simp at hc2
  refine x4x x6x (by rfl) ?_
  refine x2x rfl ?_
  refine y0y ⟨.inr rfl, ?_⟩
  clear hK1 K1
  refine y8y rfl ?_ rfl
  exact kF (by intro h; subst h; simp_all)
 try simp at hc2
 refine x9x ?_
 refine hK1 _ _ ?_
 clear hK1 K1
 refine x5x fun K3 hK3 => ?_
 refine x4x x6x (by rfl) ?_
 refine x0x rfl z3z rfl rfl y6y rfl rfl ?_
 refine x3x rfl y6y rfl rfl ?_
 refine x0x rfl z3z rfl rfl y6y rfl rfl ?_
 refine x3x rfl y6y rfl rfl ?_
 refine y1y rfl rfl rfl ?_
 refine x8x rfl (fun hc4 => ?_) (fun hc4 => ?_)
 ·try simp at hc4
  refine x4x x6x (by rfl) ?_
  refine x2x rfl ?_
  refine y0y ⟨.inr rfl, ?_⟩
  clear hK3 K3
  refine y8y rfl ?_ rfl
  exact kF (by intro h; subst h; simp_all)
 try simp at hc4
 refine x9x ?_
 refine hK3 _ _ ?_
 clear hK3 K3
 refine x5x fun K5 hK5 => ?_
 refine x4x x6x (by rfl) ?_
 refine x0x rfl z3z rfl rfl y6y rfl rfl ?_
 refine x3x rfl y6y rfl rfl ?_
 refine x0x rfl z3z rfl rfl y6y rfl rfl ?_
 refine x3x rfl y6y rfl rfl ?_
 refine y1y rfl rfl rfl ?_
 refine x8x rfl (fun hc6 => ?_) (fun hc6 => ?_)
 ·try simp at hc6
  refine x4x x6x (by rfl) ?_
  refine x2x rfl ?_
  refine y0y ⟨.inr rfl, ?_⟩
  clear hK5 K5
  refine y8y rfl ?_ rfl
  exact kF (by intro h; subst h; simp_all)
 try simp at hc6
 refine x9x ?_
 refine hK5 _ _ ?_
 clear hK5 K5
 refine x5x fun K7 hK7 => ?_
 refine x4x x6x (by rfl) ?_
 refine x0x rfl z3z rfl rfl y6y rfl rfl ?_
 refine x3x rfl y6y rfl rfl ?_
 refine x0x rfl z3z rfl rfl y6y rfl rfl ?_
 refine x3x rfl y6y rfl rfl ?_
 refine y1y rfl rfl rfl ?_
 refine x8x rfl (fun hc8 => ?_) (fun hc8 => ?_)
 ·try simp at hc8
  refine x4x x6x (by rfl) ?_
  refine x2x rfl ?_
  refine y0y ⟨.inr rfl, ?_⟩
  clear hK7 K7
  refine y8y rfl ?_ rfl
  exact kF (by intro h; subst h; simp_all)
 try simp at hc8
 refine x9x ?_
 refine hK7 _ _ ?_
 clear hK7 K7
 refine x5x fun K9 hK9 => ?_
 refine x4x x6x (by rfl) ?_
 refine x0x rfl z3z rfl rfl y6y rfl rfl ?_
 refine x3x rfl y6y rfl rfl ?_
 refine x0x rfl z3z rfl rfl y6y rfl rfl ?_
 refine x3x rfl y6y rfl rfl ?_
 refine y1y rfl rfl rfl ?_
 refine x8x rfl (fun hc10 => ?_) (fun hc10 => ?_)
 ·try simp at hc10
  refine x4x x6x (by rfl) ?_
  refine x2x rfl ?_
  refine y0y ⟨.inr rfl, ?_⟩
  clear hK9 K9
  refine y8y rfl ?_ rfl
  exact kF (by intro h; subst h; simp_all)
 try simp at hc10
 refine x9x ?_
 refine hK9 _ _ ?_
 clear hK9 K9
 refine x5x fun K11 hK11 => ?_
 refine x4x x6x (by rfl) ?_
 refine x0x rfl z3z rfl rfl y6y rfl rfl ?_
 refine x3x rfl y6y rfl rfl ?_
 refine x0x rfl z3z rfl rfl y6y rfl rfl ?_
 refine x3x rfl y6y rfl rfl ?_
 refine y1y rfl rfl rfl ?_
 refine x8x rfl (fun hc12 => ?_) (fun hc12 => ?_)
 ·try simp at hc12
  refine x4x x6x (by rfl) ?_
  refine x2x rfl ?_
  refine y0y ⟨.inr rfl, ?_⟩
  clear hK11 K11
  refine y8y rfl ?_ rfl
  exact kF (by intro h; subst h; simp_all)
 try simp at hc12
 refine x9x ?_
 refine hK11 _ _ ?_
 clear hK11 K11
 refine x5x fun K13 hK13 => ?_
 refine x4x x6x (by rfl) ?_
 refine x0x rfl z3z rfl rfl y6y rfl rfl ?_
 refine x3x rfl y6y rfl rfl ?_
 refine x0x rfl z3z rfl rfl y6y rfl rfl ?_
 refine x3x rfl y6y rfl rfl ?_
 refine y1y rfl rfl rfl ?_
 refine x8x rfl (fun hc14 => ?_) (fun hc14 => ?_)
 ·try simp at hc14
  refine x4x x6x (by rfl) ?_
  refine x2x rfl ?_
  refine y0y ⟨.inr rfl, ?_⟩
  clear hK13 K13
  refine y8y rfl ?_ rfl
  exact kF (by intro h; subst h; simp_all)
 try simp at hc14
 refine x9x ?_
 refine hK13 _ _ ?_
 clear hK13 K13
 refine x4x x6x (by rfl) ?_
 refine x2x rfl ?_
 refine y0y ⟨.inr rfl, ?_⟩
 refine y8y rfl ?_ rfl
 exact kT (by cases a; cases b; simp_all)
theorem c1r (a b : Ou) : s8s Tryz.prog 177 [.agg (s2s a), .agg (s2s b)] (.pv (.bool (decide (a = b)))) := by
 refine z1z x6x (fn := Tryz.f177) (by kernel_rfl) (by kernel_rfl) rfl (outs := [.pv (.bool (decide (a = b)))]) (by rfl) (Nat.le_of_ble_eq_true rfl) 2 ?_
 refine x4x x6x (by rfl) ?_
 refine v1v (id := 0) rfl rfl rfl ?_
 refine v1v (id := 1) rfl rfl rfl ?_
 refine x2x rfl ?_
 refine x5x fun K1 hK1 => ?_
 refine x4x x6x (by rfl) ?_
 refine x0x rfl v2v rfl rfl y6y rfl rfl ?_
 refine x3x rfl y6y rfl rfl ?_
 refine x0x rfl v2v rfl rfl y6y rfl rfl ?_
 refine x3x rfl y6y rfl rfl ?_
 refine y1y rfl rfl rfl ?_
 refine x8x rfl (fun hc2 => ?_) (fun hc2 => ?_)
 ·try simp at hc2
  refine x4x x6x (by rfl) ?_
  refine x2x rfl ?_
  refine y0y ⟨.inr rfl, ?_⟩
  clear hK1 K1
  refine y8y rfl ?_ rfl
  exact kF (by intro h; subst h; simp_all)
 try simp at hc2
 refine x9x ?_
 refine hK1 _ _ ?_
 clear hK1 K1
 refine x5x fun K3 hK3 => ?_
 refine x4x x6x (by rfl) ?_
 refine x0x rfl v2v rfl rfl y6y rfl rfl ?_
 refine x3x rfl y6y rfl rfl ?_
 refine x0x rfl v2v rfl rfl y6y rfl rfl ?_
 refine x3x rfl y6y rfl rfl ?_
 refine y1y rfl rfl rfl ?_
 refine x8x rfl (fun hc4 => ?_) (fun hc4 => ?_)
 ·try simp at hc4
  refine x4x x6x (by rfl) ?_
  refine x2x rfl ?_
  refine y0y ⟨.inr rfl, ?_⟩
  clear hK3 K3
  refine y8y rfl ?_ rfl
  exact kF (by intro h; subst h; simp_all)
 try simp at hc4
 refine x9x ?_
 refine hK3 _ _ ?_
 clear hK3 K3
 refine x5x fun K5 hK5 => ?_
 refine x4x x6x (by rfl) ?_
 refine x0x rfl v2v rfl rfl y6y rfl rfl ?_
 refine x3x rfl y6y rfl rfl ?_
 refine x0x rfl v2v rfl rfl y6y rfl rfl ?_
 refine x3x rfl y6y rfl rfl ?_
 refine y1y rfl rfl rfl ?_
 refine x8x rfl (fun hc6 => ?_) (fun hc6 => ?_)
 ·try simp at hc6
  refine x4x x6x (by rfl) ?_
  refine x2x rfl ?_
  refine y0y ⟨.inr rfl, ?_⟩
  clear hK5 K5
  refine y8y rfl ?_ rfl
  exact kF (by intro h; subst h; simp_all)
 try simp at hc6
 refine x9x ?_
 refine hK5 _ _ ?_
 clear hK5 K5
 refine x5x fun K7 hK7 => ?_
 refine x4x x6x (by rfl) ?_
 refine x0x rfl v2v rfl rfl y6y rfl rfl ?_
 refine x3x rfl y6y rfl rfl ?_
 refine x0x rfl v2v rfl rfl y6y rfl rfl ?_
 refine x3x rfl y6y rfl rfl ?_
 refine y1y rfl rfl rfl ?_
 refine x8x rfl (fun hc8 => ?_) (fun hc8 => ?_)
 ·try simp at hc8
  refine x4x x6x (by rfl) ?_
  refine x2x rfl ?_
  refine y0y ⟨.inr rfl, ?_⟩
  clear hK7 K7
  refine y8y rfl ?_ rfl
  exact kF (by intro h; subst h; simp_all)
 try simp at hc8
 refine x9x ?_
 refine hK7 _ _ ?_
 clear hK7 K7
 refine x5x fun K9 hK9 => ?_
 refine x4x x6x (by rfl) ?_
 refine x0x rfl v2v rfl rfl y6y rfl rfl ?_
 refine x3x rfl y6y rfl rfl ?_
 refine x0x rfl v2v rfl rfl y6y rfl rfl ?_
 refine x3x rfl y6y rfl rfl ?_
 refine y1y rfl rfl rfl ?_
 refine x8x rfl (fun hc10 => ?_) (fun hc10 => ?_)
 ·try simp at hc10
  refine x4x x6x (by rfl) ?_
  refine x2x rfl ?_
  refine y0y ⟨.inr rfl, ?_⟩
  clear hK9 K9
  refine y8y rfl ?_ rfl
  exact kF (by intro h; subst h; simp_all)
 try simp at hc10
 refine x9x ?_
 refine hK9 _ _ ?_
 clear hK9 K9
 refine x4x x6x (by rfl) ?_
 refine x2x rfl ?_
 refine y0y ⟨.inr rfl, ?_⟩
 refine y8y rfl ?_ rfl
 exact kT (by cases a; cases b; simp_all)
theorem a9h (a b : St) : s8s Tryz.prog 224 [.agg (a0e a), .agg (a0e b)] (.pv (.bool (decide (a = b)))) := by
 refine z1z x6x (fn := Tryz.f224) (by kernel_rfl) (by kernel_rfl) rfl (outs := [.pv (.bool (decide (a = b)))]) (by rfl) (Nat.le_of_ble_eq_true rfl) 2 ?_
 refine x4x x6x (by rfl) ?_
 refine v1v (id := 0) rfl rfl rfl ?_
 refine v1v (id := 1) rfl rfl rfl ?_
 refine x2x rfl ?_
 refine x5x fun K1 hK1 => ?_
 refine x4x x6x (by rfl) ?_
 refine x0x rfl q5q rfl rfl y6y rfl rfl ?_
 refine x3x rfl y6y rfl rfl ?_
 refine x0x rfl q5q rfl rfl y6y rfl rfl ?_
 refine x3x rfl y6y rfl rfl ?_
 refine y1y rfl rfl rfl ?_
 refine x8x rfl (fun hc2 => ?_) (fun hc2 => ?_)
 ·try simp at hc2
  refine x4x x6x (by rfl) ?_
  refine x2x rfl ?_
  refine y0y ⟨.inr rfl, ?_⟩
  clear hK1 K1
  refine y8y rfl ?_ rfl
  exact kF (by intro h; subst h; simp_all)
 try simp at hc2
 refine x9x ?_
 refine hK1 _ _ ?_
 clear hK1 K1
 refine x5x fun K3 hK3 => ?_
 refine x4x x6x (by rfl) ?_
 refine x0x rfl q5q rfl rfl y6y rfl rfl ?_
 refine x3x rfl y6y rfl rfl ?_
 refine x0x rfl q5q rfl rfl y6y rfl rfl ?_
 refine x3x rfl y6y rfl rfl ?_
 refine y1y rfl rfl rfl ?_
 refine x8x rfl (fun hc4 => ?_) (fun hc4 => ?_)
 ·try simp at hc4
  refine x4x x6x (by rfl) ?_
  refine x2x rfl ?_
  refine y0y ⟨.inr rfl, ?_⟩
  clear hK3 K3
  refine y8y rfl ?_ rfl
  exact kF (by intro h; subst h; simp_all)
 try simp at hc4
 refine x9x ?_
 refine hK3 _ _ ?_
 clear hK3 K3
 refine x5x fun K5 hK5 => ?_
 refine x4x x6x (by rfl) ?_
 refine x0x rfl q5q rfl rfl y6y rfl rfl ?_
 refine x3x rfl y6y rfl rfl ?_
 refine x0x rfl q5q rfl rfl y6y rfl rfl ?_
 refine x3x rfl y6y rfl rfl ?_
 refine y1y rfl rfl rfl ?_
 refine x8x rfl (fun hc6 => ?_) (fun hc6 => ?_)
 ·try simp at hc6
  refine x4x x6x (by rfl) ?_
  refine x2x rfl ?_
  refine y0y ⟨.inr rfl, ?_⟩
  clear hK5 K5
  refine y8y rfl ?_ rfl
  exact kF (by intro h; subst h; simp_all)
 try simp at hc6
 refine x9x ?_
 refine hK5 _ _ ?_
 clear hK5 K5
 refine x4x x6x (by rfl) ?_
 refine x2x rfl ?_
 refine y0y ⟨.inr rfl, ?_⟩
 refine y8y rfl ?_ rfl
 exact kT (by cases a; cases b; simp_all)
theorem a7g (c c' : Bool) (l l' : List Int) : s8s Tryz.prog 19 [a3s c l, a3s c' l'] (.pv (.bool (decide (l = l')))) := by
 refine z1z x6x (fn := Tryz.f19) (by kernel_rfl) (by kernel_rfl) rfl (outs := [.pv (.bool (decide (l = l')))]) (by rfl) (Nat.le_of_ble_eq_true rfl) 0 ?_
 refine w7w 0 rfl fun hlen => ?_
 refine x4x x6x (by rfl) ?_
 refine x2x rfl ?_
 refine x5x fun K1 hK1 => ?_
 refine x4x x6x (by rfl) ?_
 refine x1x rfl ?_
 refine u0u rfl v7v rfl ?_
 refine x1x rfl ?_
 refine u0u rfl v7v rfl ?_
 refine y1y rfl rfl rfl ?_
 refine x8x rfl (fun hc2 => ?_) (fun hc2 => ?_)
 ·try simp at hc2
  refine x4x x6x (by rfl) ?_
  refine x2x rfl ?_
  refine y0y ⟨.inr rfl, ?_⟩
  clear hK1 K1
  refine y8y rfl ?_ rfl
  exact d3w (by omega)
 try simp at hc2
 refine x9x ?_
 refine hK1 _ _ ?_
 clear hK1 K1
 refine x5x fun K3 hK3 => ?_
 refine x4x x6x (by rfl) ?_
 refine x2x rfl ?_
 refine y7y ?_
 refine u5u (ι := Nat) (fun i γ1 => [(5, .pv (.int .i64 (i : Int)))]) (fun i γ1 => []) (fun i => i ≤ l.length ∧ l.length = l'.length ∧ l.take i = l'.take i) (fun i => l.length - i) (Cov.cons (t := 0) rfl (Cov.cons (t := 1) rfl Cov.nil)) HE.nil 0 ⟨by omega, by omega, rfl⟩ [] (Cov.cons (t := 5) rfl Cov.nil) HE.nil rfl fun i γ1 hi => ?_
 try dsimp only [List.cons_append, List.nil_append]
 obtain ⟨h1, h2, h3⟩ := hi
 refine x5x fun K4 hK4 => ?_
 refine x4x x6x (by rfl) ?_
 refine x1x rfl ?_
 refine x1x rfl ?_
 refine u0u rfl v7v rfl ?_
 refine y1y rfl rfl rfl ?_
 refine x8x rfl (fun hc5 => ?_) (fun hc5 => ?_)
 rotate_left
 ·try simp at hc5
  refine v0v ?_
  refine hK3 _ _ ?_
  clear hK4 K4 hK3 K3
  refine x4x x6x (by rfl) ?_
  refine x2x rfl ?_
  refine y0y ⟨.inr rfl, ?_⟩
  refine y8y rfl ?_ rfl
  exact eqT h3 (by omega) (by omega)
 try simp at hc5
 refine x9x ?_
 refine hK4 _ _ ?_
 clear hK4 K4
 refine x5x fun K6 hK6 => ?_
 refine y7y ?_
 refine q7q x6x r4r (by rfl) ?_
 refine x1x rfl ?_
 refine x1x rfl ?_
 obtain ⟨x, hx⟩ : ∃ x, l[i]? = some x := ⟨_, List.getElem?_eq_getElem (by omega)⟩
 refine z7z rfl rfl v7v rfl y6y rfl hx ?_
 refine z4z rfl y6y rfl ?_
 refine x1x rfl ?_
 refine x1x rfl ?_
 obtain ⟨y, hy⟩ : ∃ y, l'[i]? = some y := ⟨_, List.getElem?_eq_getElem (by omega)⟩
 refine z7z rfl rfl v7v rfl y6y rfl hy ?_
 refine z4z rfl y6y rfl ?_
 refine y1y rfl rfl rfl ?_
 refine ⟨by kernel_rfl, ?_⟩
 refine x8x rfl (fun hc7 => ?_) (fun hc7 => ?_)
 rotate_left
 ·try simp at hc7
  refine x9x ?_
  refine hK6 _ _ ?_
  clear hK6 K6
  refine y3y x6x (by rfl) ?_
  refine x1x rfl ?_
  refine a1j (.int .i64 ((i + 1 : Nat) : Int)) rfl rfl rfl (a7z rfl (by omega) (by omega) (by have := hlen; omega)) ?_
  refine x2x rfl ?_
  exact ⟨i + 1, ⟨⟨by omega, h2, a6s h3 hx hy (by assumption)⟩, by omega⟩, [], (Cov.cons (t := 5) rfl Cov.nil), (Cov.cons (t := 0) rfl (Cov.cons (t := 1) rfl Cov.nil)), HE.nil, HE.nil, rfl⟩
 try simp at hc7
 refine x4x x6x (by rfl) ?_
 refine x2x rfl ?_
 refine y0y ⟨.inr rfl, ?_⟩
 clear hK6 K6 hK3 K3
 refine y8y rfl ?_ rfl
 exact d3x hx hy (by assumption)
theorem a2n (c c' : Bool) (l l' : List Ev) : s8s Tryz.prog 55 [a1n c l, a1n c' l'] (.pv (.bool (decide (l = l')))) := by
 refine z1z x6x (fn := Tryz.f55) (by kernel_rfl) (by kernel_rfl) rfl (outs := [.pv (.bool (decide (l = l')))]) (by rfl) (Nat.le_of_ble_eq_true rfl) 0 ?_
 refine w7w 0 rfl fun hlen => ?_
 refine x4x x6x (by rfl) ?_
 refine x2x rfl ?_
 refine x5x fun K1 hK1 => ?_
 refine x4x x6x (by rfl) ?_
 refine x1x rfl ?_
 refine u0u rfl u7u rfl ?_
 refine x1x rfl ?_
 refine u0u rfl u7u rfl ?_
 refine y1y rfl rfl rfl ?_
 refine x8x rfl (fun hc2 => ?_) (fun hc2 => ?_)
 ·try simp at hc2
  refine x4x x6x (by rfl) ?_
  refine x2x rfl ?_
  refine y0y ⟨.inr rfl, ?_⟩
  clear hK1 K1
  refine y8y rfl ?_ rfl
  exact d3w (by omega)
 try simp at hc2
 refine x9x ?_
 refine hK1 _ _ ?_
 clear hK1 K1
 refine x5x fun K3 hK3 => ?_
 refine x4x x6x (by rfl) ?_
 refine x2x rfl ?_
 refine y7y ?_
 refine u5u (ι := Nat) (fun i γ1 => [(5, .pv (.int .i64 (i : Int)))]) (fun i γ1 => []) (fun i => i ≤ l.length ∧ l.length = l'.length ∧ l.take i = l'.take i) (fun i => l.length - i) (Cov.cons (t := 0) rfl (Cov.cons (t := 1) rfl Cov.nil)) HE.nil 0 ⟨by omega, by omega, rfl⟩ [] (Cov.cons (t := 5) rfl Cov.nil) HE.nil rfl fun i γ1 hi => ?_
 try dsimp only [List.cons_append, List.nil_append]
 obtain ⟨h1, h2, h3⟩ := hi
 refine x5x fun K4 hK4 => ?_
 refine x4x x6x (by rfl) ?_
 refine x1x rfl ?_
 refine x1x rfl ?_
 refine u0u rfl u7u rfl ?_
 refine y1y rfl rfl rfl ?_
 refine x8x rfl (fun hc5 => ?_) (fun hc5 => ?_)
 rotate_left
 ·try simp at hc5
  refine v0v ?_
  refine hK3 _ _ ?_
  clear hK4 K4 hK3 K3
  refine x4x x6x (by rfl) ?_
  refine x2x rfl ?_
  refine y0y ⟨.inr rfl, ?_⟩
  refine y8y rfl ?_ rfl
  exact eqT h3 (by omega) (by omega)
 try simp at hc5
 refine x9x ?_
 refine hK4 _ _ ?_
 clear hK4 K4
 refine x5x fun K6 hK6 => ?_
 refine y7y ?_
 refine q7q x6x r4r (by rfl) ?_
 refine x1x rfl ?_
 refine x1x rfl ?_
 obtain ⟨x, hx⟩ : ∃ x, l[i]? = some x := ⟨_, List.getElem?_eq_getElem (by omega)⟩
 refine z7z rfl rfl u7u rfl z3z rfl hx ?_
 refine z6z rfl z3z rfl rfl ?_
 refine x1x rfl ?_
 refine x1x rfl ?_
 obtain ⟨y, hy⟩ : ∃ y, l'[i]? = some y := ⟨_, List.getElem?_eq_getElem (by omega)⟩
 refine z7z rfl rfl u7u rfl z3z rfl hy ?_
 refine z6z rfl z3z rfl rfl ?_
 refine y9y rfl rfl rfl (a9g ..) ?_
 refine w3w rfl ?_
 refine ⟨by kernel_rfl, ?_⟩
 refine x8x rfl (fun hc7 => ?_) (fun hc7 => ?_)
 rotate_left
 ·try simp at hc7
  refine x9x ?_
  refine hK6 _ _ ?_
  clear hK6 K6
  refine y3y x6x (by rfl) ?_
  refine x1x rfl ?_
  refine a1j (.int .i64 ((i + 1 : Nat) : Int)) rfl rfl rfl (a7z rfl (by omega) (by omega) (by have := hlen; omega)) ?_
  refine x2x rfl ?_
  exact ⟨i + 1, ⟨⟨by omega, h2, a6s h3 hx hy (by assumption)⟩, by omega⟩, [], (Cov.cons (t := 5) rfl Cov.nil), (Cov.cons (t := 0) rfl (Cov.cons (t := 1) rfl Cov.nil)), HE.nil, HE.nil, rfl⟩
 try simp at hc7
 refine x4x x6x (by rfl) ?_
 refine x2x rfl ?_
 refine y0y ⟨.inr rfl, ?_⟩
 clear hK6 K6 hK3 K3
 refine y8y rfl ?_ rfl
 exact d3x hx hy (by assumption)
theorem a7h (c c' : Bool) (l l' : List Ou) : s8s Tryz.prog 85 [a3k c l, a3k c' l'] (.pv (.bool (decide (l = l')))) := by
 refine z1z x6x (fn := Tryz.f85) (by kernel_rfl) (by kernel_rfl) rfl (outs := [.pv (.bool (decide (l = l')))]) (by rfl) (Nat.le_of_ble_eq_true rfl) 0 ?_
 refine w7w 0 rfl fun hlen => ?_
 refine x4x x6x (by rfl) ?_
 refine x2x rfl ?_
 refine x5x fun K1 hK1 => ?_
 refine x4x x6x (by rfl) ?_
 refine x1x rfl ?_
 refine u0u rfl w6w rfl ?_
 refine x1x rfl ?_
 refine u0u rfl w6w rfl ?_
 refine y1y rfl rfl rfl ?_
 refine x8x rfl (fun hc2 => ?_) (fun hc2 => ?_)
 ·try simp at hc2
  refine x4x x6x (by rfl) ?_
  refine x2x rfl ?_
  refine y0y ⟨.inr rfl, ?_⟩
  clear hK1 K1
  refine y8y rfl ?_ rfl
  exact d3w (by omega)
 try simp at hc2
 refine x9x ?_
 refine hK1 _ _ ?_
 clear hK1 K1
 refine x5x fun K3 hK3 => ?_
 refine x4x x6x (by rfl) ?_
 refine x2x rfl ?_
 refine y7y ?_
 refine u5u (ι := Nat) (fun i γ1 => [(5, .pv (.int .i64 (i : Int)))]) (fun i γ1 => []) (fun i => i ≤ l.length ∧ l.length = l'.length ∧ l.take i = l'.take i) (fun i => l.length - i) (Cov.cons (t := 0) rfl (Cov.cons (t := 1) rfl Cov.nil)) HE.nil 0 ⟨by omega, by omega, rfl⟩ [] (Cov.cons (t := 5) rfl Cov.nil) HE.nil rfl fun i γ1 hi => ?_
 try dsimp only [List.cons_append, List.nil_append]
 obtain ⟨h1, h2, h3⟩ := hi
 refine x5x fun K4 hK4 => ?_
 refine x4x x6x (by rfl) ?_
 refine x1x rfl ?_
 refine x1x rfl ?_
 refine u0u rfl w6w rfl ?_
 refine y1y rfl rfl rfl ?_
 refine x8x rfl (fun hc5 => ?_) (fun hc5 => ?_)
 rotate_left
 ·try simp at hc5
  refine v0v ?_
  refine hK3 _ _ ?_
  clear hK4 K4 hK3 K3
  refine x4x x6x (by rfl) ?_
  refine x2x rfl ?_
  refine y0y ⟨.inr rfl, ?_⟩
  refine y8y rfl ?_ rfl
  exact eqT h3 (by omega) (by omega)
 try simp at hc5
 refine x9x ?_
 refine hK4 _ _ ?_
 clear hK4 K4
 refine x5x fun K6 hK6 => ?_
 refine y7y ?_
 refine q7q x6x r4r (by rfl) ?_
 refine x1x rfl ?_
 refine x1x rfl ?_
 obtain ⟨x, hx⟩ : ∃ x, l[i]? = some x := ⟨_, List.getElem?_eq_getElem (by omega)⟩
 refine z7z rfl rfl w6w rfl v2v rfl hx ?_
 refine z6z rfl v2v rfl rfl ?_
 refine x1x rfl ?_
 refine x1x rfl ?_
 obtain ⟨y, hy⟩ : ∃ y, l'[i]? = some y := ⟨_, List.getElem?_eq_getElem (by omega)⟩
 refine z7z rfl rfl w6w rfl v2v rfl hy ?_
 refine z6z rfl v2v rfl rfl ?_
 refine y9y rfl rfl rfl (c1r ..) ?_
 refine w3w rfl ?_
 refine ⟨by kernel_rfl, ?_⟩
 refine x8x rfl (fun hc7 => ?_) (fun hc7 => ?_)
 rotate_left
 ·try simp at hc7
  refine x9x ?_
  refine hK6 _ _ ?_
  clear hK6 K6
  refine y3y x6x (by rfl) ?_
  refine x1x rfl ?_
  refine a1j (.int .i64 ((i + 1 : Nat) : Int)) rfl rfl rfl (a7z rfl (by omega) (by omega) (by have := hlen; omega)) ?_
  refine x2x rfl ?_
  exact ⟨i + 1, ⟨⟨by omega, h2, a6s h3 hx hy (by assumption)⟩, by omega⟩, [], (Cov.cons (t := 5) rfl Cov.nil), (Cov.cons (t := 0) rfl (Cov.cons (t := 1) rfl Cov.nil)), HE.nil, HE.nil, rfl⟩
 try simp at hc7
 refine x4x x6x (by rfl) ?_
 refine x2x rfl ?_
 refine y0y ⟨.inr rfl, ?_⟩
 clear hK6 K6 hK3 K3
 refine y8y rfl ?_ rfl
 exact d3x hx hy (by assumption)
theorem b8y (c c' : Bool) (a b : Pa) : s8s Tryz.prog 251 [.agg (a2c c a), .agg (a2c c' b)] (.pv (.bool (decide (a = b)))) := by
 refine z1z x6x (fn := Tryz.f251) (by kernel_rfl) (by kernel_rfl) rfl (outs := [.pv (.bool (decide (a = b)))]) (by rfl) (Nat.le_of_ble_eq_true rfl) 2 ?_
 refine x4x x6x (by rfl) ?_
 refine v1v (id := 0) rfl rfl rfl ?_
 refine v1v (id := 1) rfl rfl rfl ?_
 refine x2x rfl ?_
 refine x5x fun K1 hK1 => ?_
 refine x4x x6x (by rfl) ?_
 refine x0x rfl v8v rfl rfl z3z rfl rfl ?_
 refine x3x (out := .agg (v6v a.ev)) rfl z3z rfl rfl ?_
 refine x0x rfl v8v rfl rfl z3z rfl rfl ?_
 refine x3x (out := .agg (v6v b.ev)) rfl z3z rfl rfl ?_
 refine y9y rfl rfl rfl (a9g ..) ?_
 refine w3w rfl ?_
 refine x8x rfl (fun hc2 => ?_) (fun hc2 => ?_)
 ·try simp at hc2
  refine x4x x6x (by rfl) ?_
  refine x2x rfl ?_
  refine y0y ⟨.inr rfl, ?_⟩
  clear hK1 K1
  refine y8y rfl ?_ rfl
  exact kF (by intro h; subst h; simp_all)
 try simp at hc2
 refine x9x ?_
 refine hK1 _ _ ?_
 clear hK1 K1
 refine x5x fun K3 hK3 => ?_
 refine x4x x6x (by rfl) ?_
 refine x0x rfl v8v rfl rfl q5q rfl rfl ?_
 refine x3x (out := .agg (a0e a.after)) rfl q5q rfl rfl ?_
 refine x0x rfl v8v rfl rfl q5q rfl rfl ?_
 refine x3x (out := .agg (a0e b.after)) rfl q5q rfl rfl ?_
 refine y9y rfl rfl rfl (a9h ..) ?_
 refine w3w rfl ?_
 refine x8x rfl (fun hc4 => ?_) (fun hc4 => ?_)
 ·try simp at hc4
  refine x4x x6x (by rfl) ?_
  refine x2x rfl ?_
  refine y0y ⟨.inr rfl, ?_⟩
  clear hK3 K3
  refine y8y rfl ?_ rfl
  exact kF (by intro h; subst h; simp_all)
 try simp at hc4
 refine x9x ?_
 refine hK3 _ _ ?_
 clear hK3 K3
 refine x5x fun K5 hK5 => ?_
 refine x4x x6x (by rfl) ?_
 refine x0x rfl v8v rfl rfl u7u rfl rfl ?_
 refine x3x rfl u7u rfl rfl ?_
 refine x0x rfl v8v rfl rfl u7u rfl rfl ?_
 refine x3x rfl u7u rfl rfl ?_
 refine y9y rfl rfl rfl (a2n ..) ?_
 refine w3w rfl ?_
 refine x8x rfl (fun hc6 => ?_) (fun hc6 => ?_)
 ·try simp at hc6
  refine x4x x6x (by rfl) ?_
  refine x2x rfl ?_
  refine y0y ⟨.inr rfl, ?_⟩
  clear hK5 K5
  refine y8y rfl ?_ rfl
  exact kF (by intro h; subst h; simp_all)
 try simp at hc6
 refine x9x ?_
 refine hK5 _ _ ?_
 clear hK5 K5
 refine x5x fun K7 hK7 => ?_
 refine x4x x6x (by rfl) ?_
 refine x0x rfl v8v rfl rfl w6w rfl rfl ?_
 refine x3x rfl w6w rfl rfl ?_
 refine x0x rfl v8v rfl rfl w6w rfl rfl ?_
 refine x3x rfl w6w rfl rfl ?_
 refine y9y rfl rfl rfl (a7h ..) ?_
 refine w3w rfl ?_
 refine x8x rfl (fun hc8 => ?_) (fun hc8 => ?_)
 ·try simp at hc8
  refine x4x x6x (by rfl) ?_
  refine x2x rfl ?_
  refine y0y ⟨.inr rfl, ?_⟩
  clear hK7 K7
  refine y8y rfl ?_ rfl
  exact kF (by intro h; subst h; simp_all)
 try simp at hc8
 refine x9x ?_
 refine hK7 _ _ ?_
 clear hK7 K7
 refine x4x x6x (by rfl) ?_
 refine x2x rfl ?_
 refine y0y ⟨.inr rfl, ?_⟩
 refine y8y rfl ?_ rfl
 exact kT (by cases a; cases b; simp_all)
theorem b6h (c c' : Bool) (l l' : List Pa) : s8s Tryz.prog 225 [a7l c l, a7l c' l'] (.pv (.bool (decide (l = l')))) := by
 refine z1z x6x (fn := Tryz.f225) (by kernel_rfl) (by kernel_rfl) rfl (outs := [.pv (.bool (decide (l = l')))]) (by rfl) (Nat.le_of_ble_eq_true rfl) 0 ?_
 refine w7w 0 rfl fun hlen => ?_
 refine x4x x6x (by rfl) ?_
 refine x2x rfl ?_
 refine x5x fun K1 hK1 => ?_
 refine x4x x6x (by rfl) ?_
 refine x1x rfl ?_
 refine u0u rfl v9v rfl ?_
 refine x1x rfl ?_
 refine u0u rfl v9v rfl ?_
 refine y1y rfl rfl rfl ?_
 refine x8x rfl (fun hc2 => ?_) (fun hc2 => ?_)
 ·try simp at hc2
  refine x4x x6x (by rfl) ?_
  refine x2x rfl ?_
  refine y0y ⟨.inr rfl, ?_⟩
  clear hK1 K1
  refine y8y rfl ?_ rfl
  exact d3w (by omega)
 try simp at hc2
 refine x9x ?_
 refine hK1 _ _ ?_
 clear hK1 K1
 refine x5x fun K3 hK3 => ?_
 refine x4x x6x (by rfl) ?_
 refine x2x rfl ?_
 refine y7y ?_
 refine u5u (ι := Nat) (fun i γ1 => [(5, .pv (.int .i64 (i : Int)))]) (fun i γ1 => []) (fun i => i ≤ l.length ∧ l.length = l'.length ∧ l.take i = l'.take i) (fun i => l.length - i) (Cov.cons (t := 0) rfl (Cov.cons (t := 1) rfl Cov.nil)) HE.nil 0 ⟨by omega, by omega, rfl⟩ [] (Cov.cons (t := 5) rfl Cov.nil) HE.nil rfl fun i γ1 hi => ?_
 try dsimp only [List.cons_append, List.nil_append]
 obtain ⟨h1, h2, h3⟩ := hi
 refine x5x fun K4 hK4 => ?_
 refine x4x x6x (by rfl) ?_
 refine x1x rfl ?_
 refine x1x rfl ?_
 refine u0u rfl v9v rfl ?_
 refine y1y rfl rfl rfl ?_
 refine x8x rfl (fun hc5 => ?_) (fun hc5 => ?_)
 rotate_left
 ·try simp at hc5
  refine v0v ?_
  refine hK3 _ _ ?_
  clear hK4 K4 hK3 K3
  refine x4x x6x (by rfl) ?_
  refine x2x rfl ?_
  refine y0y ⟨.inr rfl, ?_⟩
  refine y8y rfl ?_ rfl
  exact eqT h3 (by omega) (by omega)
 try simp at hc5
 refine x9x ?_
 refine hK4 _ _ ?_
 clear hK4 K4
 refine x5x fun K6 hK6 => ?_
 refine y7y ?_
 refine q7q x6x r4r (by rfl) ?_
 refine x1x rfl ?_
 refine x1x rfl ?_
 obtain ⟨x, hx⟩ : ∃ x, l[i]? = some x := ⟨_, List.getElem?_eq_getElem (by omega)⟩
 refine z7z rfl rfl v9v rfl v8v rfl hx ?_
 refine z6z rfl v8v rfl rfl ?_
 refine x1x rfl ?_
 refine x1x rfl ?_
 obtain ⟨y, hy⟩ : ∃ y, l'[i]? = some y := ⟨_, List.getElem?_eq_getElem (by omega)⟩
 refine z7z rfl rfl v9v rfl v8v rfl hy ?_
 refine z6z rfl v8v rfl rfl ?_
 refine y9y rfl rfl rfl (b8y ..) ?_
 refine w3w rfl ?_
 refine ⟨by kernel_rfl, ?_⟩
 refine x8x rfl (fun hc7 => ?_) (fun hc7 => ?_)
 rotate_left
 ·try simp at hc7
  refine x9x ?_
  refine hK6 _ _ ?_
  clear hK6 K6
  refine y3y x6x (by rfl) ?_
  refine x1x rfl ?_
  refine a1j (.int .i64 ((i + 1 : Nat) : Int)) rfl rfl rfl (a7z rfl (by omega) (by omega) (by have := hlen; omega)) ?_
  refine x2x rfl ?_
  exact ⟨i + 1, ⟨⟨by omega, h2, a6s h3 hx hy (by assumption)⟩, by omega⟩, [], (Cov.cons (t := 5) rfl Cov.nil), (Cov.cons (t := 0) rfl (Cov.cons (t := 1) rfl Cov.nil)), HE.nil, HE.nil, rfl⟩
 try simp at hc7
 refine x4x x6x (by rfl) ?_
 refine x2x rfl ?_
 refine y0y ⟨.inr rfl, ?_⟩
 clear hK6 K6 hK3 K3
 refine y8y rfl ?_ rfl
 exact d3x hx hy (by assumption)
theorem b8z (c c' : Bool) (a b : La) : s8s Tryz.prog 176 [.agg (a1q c a), .agg (a1q c' b)] (.pv (.bool (decide (a = b)))) := by
 refine z1z x6x (fn := Tryz.f176) (by kernel_rfl) (by kernel_rfl) rfl (outs := [.pv (.bool (decide (a = b)))]) (by rfl) (Nat.le_of_ble_eq_true rfl) 2 ?_
 refine x4x x6x (by rfl) ?_
 refine v1v (id := 0) rfl rfl rfl ?_
 refine v1v (id := 1) rfl rfl rfl ?_
 refine x2x rfl ?_
 refine x5x fun K1 hK1 => ?_
 refine x4x x6x (by rfl) ?_
 refine x0x rfl v4v rfl rfl y6y rfl rfl ?_
 refine x3x rfl y6y rfl rfl ?_
 refine x0x rfl v4v rfl rfl y6y rfl rfl ?_
 refine x3x rfl y6y rfl rfl ?_
 refine y1y rfl rfl rfl ?_
 refine x8x rfl (fun hc2 => ?_) (fun hc2 => ?_)
 ·try simp at hc2
  refine x4x x6x (by rfl) ?_
  refine x2x rfl ?_
  refine y0y ⟨.inr rfl, ?_⟩
  clear hK1 K1
  refine y8y rfl ?_ rfl
  exact kF (by intro h; subst h; simp_all)
 try simp at hc2
 refine x9x ?_
 refine hK1 _ _ ?_
 clear hK1 K1
 refine x5x fun K3 hK3 => ?_
 refine x4x x6x (by rfl) ?_
 refine x0x rfl v4v rfl rfl q5q rfl rfl ?_
 refine x3x (out := .agg (a0e a.base)) rfl q5q rfl rfl ?_
 refine x0x rfl v4v rfl rfl q5q rfl rfl ?_
 refine x3x (out := .agg (a0e b.base)) rfl q5q rfl rfl ?_
 refine y9y rfl rfl rfl (a9h ..) ?_
 refine w3w rfl ?_
 refine x8x rfl (fun hc4 => ?_) (fun hc4 => ?_)
 ·try simp at hc4
  refine x4x x6x (by rfl) ?_
  refine x2x rfl ?_
  refine y0y ⟨.inr rfl, ?_⟩
  clear hK3 K3
  refine y8y rfl ?_ rfl
  exact kF (by intro h; subst h; simp_all)
 try simp at hc4
 refine x9x ?_
 refine hK3 _ _ ?_
 clear hK3 K3
 refine x5x fun K5 hK5 => ?_
 refine x4x x6x (by rfl) ?_
 refine x0x rfl v4v rfl rfl v9v rfl rfl ?_
 refine x3x rfl v9v rfl rfl ?_
 refine x0x rfl v4v rfl rfl v9v rfl rfl ?_
 refine x3x rfl v9v rfl rfl ?_
 refine y9y rfl rfl rfl (b6h ..) ?_
 refine w3w rfl ?_
 refine x8x rfl (fun hc6 => ?_) (fun hc6 => ?_)
 ·try simp at hc6
  refine x4x x6x (by rfl) ?_
  refine x2x rfl ?_
  refine y0y ⟨.inr rfl, ?_⟩
  clear hK5 K5
  refine y8y rfl ?_ rfl
  exact kF (by intro h; subst h; simp_all)
 try simp at hc6
 refine x9x ?_
 refine hK5 _ _ ?_
 clear hK5 K5
 refine x4x x6x (by rfl) ?_
 refine x2x rfl ?_
 refine y0y ⟨.inr rfl, ?_⟩
 refine y8y rfl ?_ rfl
 exact kT (by cases a; cases b; simp_all)
theorem b6i (c c' : Bool) (l l' : List La) : s8s Tryz.prog 84 [b9u c l, b9u c' l'] (.pv (.bool (decide (l = l')))) := by
 refine z1z x6x (fn := Tryz.f84) (by kernel_rfl) (by kernel_rfl) rfl (outs := [.pv (.bool (decide (l = l')))]) (by rfl) (Nat.le_of_ble_eq_true rfl) 0 ?_
 refine w7w 0 rfl fun hlen => ?_
 refine x4x x6x (by rfl) ?_
 refine x2x rfl ?_
 refine x5x fun K1 hK1 => ?_
 refine x4x x6x (by rfl) ?_
 refine x1x rfl ?_
 refine u0u rfl w4w rfl ?_
 refine x1x rfl ?_
 refine u0u rfl w4w rfl ?_
 refine y1y rfl rfl rfl ?_
 refine x8x rfl (fun hc2 => ?_) (fun hc2 => ?_)
 ·try simp at hc2
  refine x4x x6x (by rfl) ?_
  refine x2x rfl ?_
  refine y0y ⟨.inr rfl, ?_⟩
  clear hK1 K1
  refine y8y rfl ?_ rfl
  exact d3w (by omega)
 try simp at hc2
 refine x9x ?_
 refine hK1 _ _ ?_
 clear hK1 K1
 refine x5x fun K3 hK3 => ?_
 refine x4x x6x (by rfl) ?_
 refine x2x rfl ?_
 refine y7y ?_
 refine u5u (ι := Nat) (fun i γ1 => [(5, .pv (.int .i64 (i : Int)))]) (fun i γ1 => []) (fun i => i ≤ l.length ∧ l.length = l'.length ∧ l.take i = l'.take i) (fun i => l.length - i) (Cov.cons (t := 0) rfl (Cov.cons (t := 1) rfl Cov.nil)) HE.nil 0 ⟨by omega, by omega, rfl⟩ [] (Cov.cons (t := 5) rfl Cov.nil) HE.nil rfl fun i γ1 hi => ?_
 try dsimp only [List.cons_append, List.nil_append]
 obtain ⟨h1, h2, h3⟩ := hi
 refine x5x fun K4 hK4 => ?_
 refine x4x x6x (by rfl) ?_
 refine x1x rfl ?_
 refine x1x rfl ?_
 refine u0u rfl w4w rfl ?_
 refine y1y rfl rfl rfl ?_
 refine x8x rfl (fun hc5 => ?_) (fun hc5 => ?_)
 rotate_left
 ·try simp at hc5
  refine v0v ?_
  refine hK3 _ _ ?_
  clear hK4 K4 hK3 K3
  refine x4x x6x (by rfl) ?_
  refine x2x rfl ?_
  refine y0y ⟨.inr rfl, ?_⟩
  refine y8y rfl ?_ rfl
  exact eqT h3 (by omega) (by omega)
 try simp at hc5
 refine x9x ?_
 refine hK4 _ _ ?_
 clear hK4 K4
 refine x5x fun K6 hK6 => ?_
 refine y7y ?_
 refine q7q x6x r4r (by rfl) ?_
 refine x1x rfl ?_
 refine x1x rfl ?_
 obtain ⟨x, hx⟩ : ∃ x, l[i]? = some x := ⟨_, List.getElem?_eq_getElem (by omega)⟩
 refine z7z rfl rfl w4w rfl v4v rfl hx ?_
 refine z6z rfl v4v rfl rfl ?_
 refine x1x rfl ?_
 refine x1x rfl ?_
 obtain ⟨y, hy⟩ : ∃ y, l'[i]? = some y := ⟨_, List.getElem?_eq_getElem (by omega)⟩
 refine z7z rfl rfl w4w rfl v4v rfl hy ?_
 refine z6z rfl v4v rfl rfl ?_
 refine y9y rfl rfl rfl (b8z ..) ?_
 refine w3w rfl ?_
 refine ⟨by kernel_rfl, ?_⟩
 refine x8x rfl (fun hc7 => ?_) (fun hc7 => ?_)
 rotate_left
 ·try simp at hc7
  refine x9x ?_
  refine hK6 _ _ ?_
  clear hK6 K6
  refine y3y x6x (by rfl) ?_
  refine x1x rfl ?_
  refine a1j (.int .i64 ((i + 1 : Nat) : Int)) rfl rfl rfl (a7z rfl (by omega) (by omega) (by have := hlen; omega)) ?_
  refine x2x rfl ?_
  exact ⟨i + 1, ⟨⟨by omega, h2, a6s h3 hx hy (by assumption)⟩, by omega⟩, [], (Cov.cons (t := 5) rfl Cov.nil), (Cov.cons (t := 0) rfl (Cov.cons (t := 1) rfl Cov.nil)), HE.nil, HE.nil, rfl⟩
 try simp at hc7
 refine x4x x6x (by rfl) ?_
 refine x2x rfl ?_
 refine y0y ⟨.inr rfl, ?_⟩
 clear hK6 K6 hK3 K3
 refine y8y rfl ?_ rfl
 exact d3x hx hy (by assumption)
theorem b9a (c c' : Bool) (a b : Vi) : s8s Tryz.prog 178 [.agg (a4b c a), .agg (a4b c' b)] (.pv (.bool (decide (a = b)))) := by
 refine z1z x6x (fn := Tryz.f178) (by kernel_rfl) (by kernel_rfl) rfl (outs := [.pv (.bool (decide (a = b)))]) (by rfl) (Nat.le_of_ble_eq_true rfl) 2 ?_
 refine x4x x6x (by rfl) ?_
 refine v1v (id := 0) rfl rfl rfl ?_
 refine v1v (id := 1) rfl rfl rfl ?_
 refine x2x rfl ?_
 refine x5x fun K1 hK1 => ?_
 refine x4x x6x (by rfl) ?_
 refine x0x rfl w0w rfl rfl y6y rfl rfl ?_
 refine x3x rfl y6y rfl rfl ?_
 refine x0x rfl w0w rfl rfl y6y rfl rfl ?_
 refine x3x rfl y6y rfl rfl ?_
 refine y1y rfl rfl rfl ?_
 refine x8x rfl (fun hc2 => ?_) (fun hc2 => ?_)
 ·try simp at hc2
  refine x4x x6x (by rfl) ?_
  refine x2x rfl ?_
  refine y0y ⟨.inr rfl, ?_⟩
  clear hK1 K1
  refine y8y rfl ?_ rfl
  exact kF (by intro h; subst h; simp_all)
 try simp at hc2
 refine x9x ?_
 refine hK1 _ _ ?_
 clear hK1 K1
 refine x5x fun K3 hK3 => ?_
 refine x4x x6x (by rfl) ?_
 refine x0x rfl w0w rfl rfl y6y rfl rfl ?_
 refine x3x rfl y6y rfl rfl ?_
 refine x0x rfl w0w rfl rfl y6y rfl rfl ?_
 refine x3x rfl y6y rfl rfl ?_
 refine y1y rfl rfl rfl ?_
 refine x8x rfl (fun hc4 => ?_) (fun hc4 => ?_)
 ·try simp at hc4
  refine x4x x6x (by rfl) ?_
  refine x2x rfl ?_
  refine y0y ⟨.inr rfl, ?_⟩
  clear hK3 K3
  refine y8y rfl ?_ rfl
  exact kF (by intro h; subst h; simp_all)
 try simp at hc4
 refine x9x ?_
 refine hK3 _ _ ?_
 clear hK3 K3
 refine x5x fun K5 hK5 => ?_
 refine x4x x6x (by rfl) ?_
 refine x0x rfl w0w rfl rfl u7u rfl rfl ?_
 refine x3x rfl u7u rfl rfl ?_
 refine x0x rfl w0w rfl rfl u7u rfl rfl ?_
 refine x3x rfl u7u rfl rfl ?_
 refine y9y rfl rfl rfl (a2n ..) ?_
 refine w3w rfl ?_
 refine x8x rfl (fun hc6 => ?_) (fun hc6 => ?_)
 ·try simp at hc6
  refine x4x x6x (by rfl) ?_
  refine x2x rfl ?_
  refine y0y ⟨.inr rfl, ?_⟩
  clear hK5 K5
  refine y8y rfl ?_ rfl
  exact kF (by intro h; subst h; simp_all)
 try simp at hc6
 refine x9x ?_
 refine hK5 _ _ ?_
 clear hK5 K5
 refine x4x x6x (by rfl) ?_
 refine x2x rfl ?_
 refine y0y ⟨.inr rfl, ?_⟩
 refine y8y rfl ?_ rfl
 exact kT (by cases a; cases b; simp_all)
theorem b6j (c c' : Bool) (l l' : List Vi) : s8s Tryz.prog 86 [b9v c l, b9v c' l'] (.pv (.bool (decide (l = l')))) := by
 refine z1z x6x (fn := Tryz.f86) (by kernel_rfl) (by kernel_rfl) rfl (outs := [.pv (.bool (decide (l = l')))]) (by rfl) (Nat.le_of_ble_eq_true rfl) 0 ?_
 refine w7w 0 rfl fun hlen => ?_
 refine x4x x6x (by rfl) ?_
 refine x2x rfl ?_
 refine x5x fun K1 hK1 => ?_
 refine x4x x6x (by rfl) ?_
 refine x1x rfl ?_
 refine u0u rfl p1p rfl ?_
 refine x1x rfl ?_
 refine u0u rfl p1p rfl ?_
 refine y1y rfl rfl rfl ?_
 refine x8x rfl (fun hc2 => ?_) (fun hc2 => ?_)
 ·try simp at hc2
  refine x4x x6x (by rfl) ?_
  refine x2x rfl ?_
  refine y0y ⟨.inr rfl, ?_⟩
  clear hK1 K1
  refine y8y rfl ?_ rfl
  exact d3w (by omega)
 try simp at hc2
 refine x9x ?_
 refine hK1 _ _ ?_
 clear hK1 K1
 refine x5x fun K3 hK3 => ?_
 refine x4x x6x (by rfl) ?_
 refine x2x rfl ?_
 refine y7y ?_
 refine u5u (ι := Nat) (fun i γ1 => [(5, .pv (.int .i64 (i : Int)))]) (fun i γ1 => []) (fun i => i ≤ l.length ∧ l.length = l'.length ∧ l.take i = l'.take i) (fun i => l.length - i) (Cov.cons (t := 0) rfl (Cov.cons (t := 1) rfl Cov.nil)) HE.nil 0 ⟨by omega, by omega, rfl⟩ [] (Cov.cons (t := 5) rfl Cov.nil) HE.nil rfl fun i γ1 hi => ?_
 try dsimp only [List.cons_append, List.nil_append]
 obtain ⟨h1, h2, h3⟩ := hi
 refine x5x fun K4 hK4 => ?_
 refine x4x x6x (by rfl) ?_
 refine x1x rfl ?_
 refine x1x rfl ?_
 refine u0u rfl p1p rfl ?_
 refine y1y rfl rfl rfl ?_
 refine x8x rfl (fun hc5 => ?_) (fun hc5 => ?_)
 rotate_left
 ·try simp at hc5
  refine v0v ?_
  refine hK3 _ _ ?_
  clear hK4 K4 hK3 K3
  refine x4x x6x (by rfl) ?_
  refine x2x rfl ?_
  refine y0y ⟨.inr rfl, ?_⟩
  refine y8y rfl ?_ rfl
  exact eqT h3 (by omega) (by omega)
 try simp at hc5
 refine x9x ?_
 refine hK4 _ _ ?_
 clear hK4 K4
 refine x5x fun K6 hK6 => ?_
 refine y7y ?_
 refine q7q x6x r4r (by rfl) ?_
 refine x1x rfl ?_
 refine x1x rfl ?_
 obtain ⟨x, hx⟩ : ∃ x, l[i]? = some x := ⟨_, List.getElem?_eq_getElem (by omega)⟩
 refine z7z rfl rfl p1p rfl w0w rfl hx ?_
 refine z6z rfl w0w rfl rfl ?_
 refine x1x rfl ?_
 refine x1x rfl ?_
 obtain ⟨y, hy⟩ : ∃ y, l'[i]? = some y := ⟨_, List.getElem?_eq_getElem (by omega)⟩
 refine z7z rfl rfl p1p rfl w0w rfl hy ?_
 refine z6z rfl w0w rfl rfl ?_
 refine y9y rfl rfl rfl (b9a ..) ?_
 refine w3w rfl ?_
 refine ⟨by kernel_rfl, ?_⟩
 refine x8x rfl (fun hc7 => ?_) (fun hc7 => ?_)
 rotate_left
 ·try simp at hc7
  refine x9x ?_
  refine hK6 _ _ ?_
  clear hK6 K6
  refine y3y x6x (by rfl) ?_
  refine x1x rfl ?_
  refine a1j (.int .i64 ((i + 1 : Nat) : Int)) rfl rfl rfl (a7z rfl (by omega) (by omega) (by have := hlen; omega)) ?_
  refine x2x rfl ?_
  exact ⟨i + 1, ⟨⟨by omega, h2, a6s h3 hx hy (by assumption)⟩, by omega⟩, [], (Cov.cons (t := 5) rfl Cov.nil), (Cov.cons (t := 0) rfl (Cov.cons (t := 1) rfl Cov.nil)), HE.nil, HE.nil, rfl⟩
 try simp at hc7
 refine x4x x6x (by rfl) ?_
 refine x2x rfl ?_
 refine y0y ⟨.inr rfl, ?_⟩
 clear hK6 K6 hK3 K3
 refine y8y rfl ?_ rfl
 exact d3x hx hy (by assumption)
theorem a4c (c c' : Bool) (a b : Nd) : s8s Tryz.prog 18 [.agg (a0t c a), .agg (a0t c' b)] (.pv (.bool (decide (a = b)))) := by
 refine z1z x6x (fn := Tryz.f18) (by kernel_rfl) (by kernel_rfl) rfl (outs := [.pv (.bool (decide (a = b)))]) (by rfl) (Nat.le_of_ble_eq_true rfl) 2 ?_
 refine x4x x6x (by rfl) ?_
 refine v1v (id := 0) rfl rfl rfl ?_
 refine v1v (id := 1) rfl rfl rfl ?_
 refine x2x rfl ?_
 refine x5x fun K1 hK1 => ?_
 refine x4x x6x (by rfl) ?_
 refine x0x rfl z8z rfl rfl y6y rfl rfl ?_
 refine x3x rfl y6y rfl rfl ?_
 refine x0x rfl z8z rfl rfl y6y rfl rfl ?_
 refine x3x rfl y6y rfl rfl ?_
 refine y1y rfl rfl rfl ?_
 refine x8x rfl (fun hc2 => ?_) (fun hc2 => ?_)
 ·try simp at hc2
  refine x4x x6x (by rfl) ?_
  refine x2x rfl ?_
  refine y0y ⟨.inr rfl, ?_⟩
  clear hK1 K1
  refine y8y rfl ?_ rfl
  exact kF (by intro h; subst h; simp_all)
 try simp at hc2
 refine x9x ?_
 refine hK1 _ _ ?_
 clear hK1 K1
 refine x5x fun K3 hK3 => ?_
 refine x4x x6x (by rfl) ?_
 refine x0x rfl z8z rfl rfl b5u rfl rfl ?_
 refine x3x rfl b5u rfl rfl ?_
 refine x0x rfl z8z rfl rfl b5u rfl rfl ?_
 refine x3x rfl b5u rfl rfl ?_
 refine a9v rfl rfl (by intro p q h h'; cases h; cases h'; rfl) (.inr rfl) (b3p Tryz.underlying4 _ _ _ _) ?_
 refine x8x rfl (fun hc4 => ?_) (fun hc4 => ?_)
 ·try simp at hc4
  refine x4x x6x (by rfl) ?_
  refine x2x rfl ?_
  refine y0y ⟨.inr rfl, ?_⟩
  clear hK3 K3
  refine y8y rfl ?_ rfl
  exact kF (by intro h; subst h; simp_all)
 try simp at hc4
 refine x9x ?_
 refine hK3 _ _ ?_
 clear hK3 K3
 refine x5x fun K5 hK5 => ?_
 refine x4x x6x (by rfl) ?_
 refine x0x rfl z8z rfl rfl y6y rfl rfl ?_
 refine x3x rfl y6y rfl rfl ?_
 refine x0x rfl z8z rfl rfl y6y rfl rfl ?_
 refine x3x rfl y6y rfl rfl ?_
 refine y1y rfl rfl rfl ?_
 refine x8x rfl (fun hc6 => ?_) (fun hc6 => ?_)
 ·try simp at hc6
  refine x4x x6x (by rfl) ?_
  refine x2x rfl ?_
  refine y0y ⟨.inr rfl, ?_⟩
  clear hK5 K5
  refine y8y rfl ?_ rfl
  exact kF (by intro h; subst h; simp_all)
 try simp at hc6
 refine x9x ?_
 refine hK5 _ _ ?_
 clear hK5 K5
 refine x5x fun K7 hK7 => ?_
 refine x4x x6x (by rfl) ?_
 refine x0x rfl z8z rfl rfl y6y rfl rfl ?_
 refine x3x rfl y6y rfl rfl ?_
 refine x0x rfl z8z rfl rfl y6y rfl rfl ?_
 refine x3x rfl y6y rfl rfl ?_
 refine y1y rfl rfl rfl ?_
 refine x8x rfl (fun hc8 => ?_) (fun hc8 => ?_)
 ·try simp at hc8
  refine x4x x6x (by rfl) ?_
  refine x2x rfl ?_
  refine y0y ⟨.inr rfl, ?_⟩
  clear hK7 K7
  refine y8y rfl ?_ rfl
  exact kF (by intro h; subst h; simp_all)
 try simp at hc8
 refine x9x ?_
 refine hK7 _ _ ?_
 clear hK7 K7
 refine x5x fun K9 hK9 => ?_
 refine x4x x6x (by rfl) ?_
 refine x0x rfl z8z rfl rfl w4w rfl rfl ?_
 refine x3x rfl w4w rfl rfl ?_
 refine x0x rfl z8z rfl rfl w4w rfl rfl ?_
 refine x3x rfl w4w rfl rfl ?_
 refine y9y rfl rfl rfl (b6i ..) ?_
 refine w3w rfl ?_
 refine x8x rfl (fun hc10 => ?_) (fun hc10 => ?_)
 ·try simp at hc10
  refine x4x x6x (by rfl) ?_
  refine x2x rfl ?_
  refine y0y ⟨.inr rfl, ?_⟩
  clear hK9 K9
  refine y8y rfl ?_ rfl
  exact kF (by intro h; subst h; simp_all)
 try simp at hc10
 refine x9x ?_
 refine hK9 _ _ ?_
 clear hK9 K9
 refine x5x fun K11 hK11 => ?_
 refine x4x x6x (by rfl) ?_
 refine x0x rfl z8z rfl rfl u7u rfl rfl ?_
 refine x3x rfl u7u rfl rfl ?_
 refine x0x rfl z8z rfl rfl u7u rfl rfl ?_
 refine x3x rfl u7u rfl rfl ?_
 refine y9y rfl rfl rfl (a2n ..) ?_
 refine w3w rfl ?_
 refine x8x rfl (fun hc12 => ?_) (fun hc12 => ?_)
 ·try simp at hc12
  refine x4x x6x (by rfl) ?_
  refine x2x rfl ?_
  refine y0y ⟨.inr rfl, ?_⟩
  clear hK11 K11
  refine y8y rfl ?_ rfl
  exact kF (by intro h; subst h; simp_all)
 try simp at hc12
 refine x9x ?_
 refine hK11 _ _ ?_
 clear hK11 K11
 refine x5x fun K13 hK13 => ?_
 refine x4x x6x (by rfl) ?_
 refine x0x rfl z8z rfl rfl w6w rfl rfl ?_
 refine x3x rfl w6w rfl rfl ?_
 refine x0x rfl z8z rfl rfl w6w rfl rfl ?_
 refine x3x rfl w6w rfl rfl ?_
 refine y9y rfl rfl rfl (a7h ..) ?_
 refine w3w rfl ?_
 refine x8x rfl (fun hc14 => ?_) (fun hc14 => ?_)
 ·try simp at hc14
  refine x4x x6x (by rfl) ?_
  refine x2x rfl ?_
  refine y0y ⟨.inr rfl, ?_⟩
  clear hK13 K13
  refine y8y rfl ?_ rfl
  exact kF (by intro h; subst h; simp_all)
 try simp at hc14
 refine x9x ?_
 refine hK13 _ _ ?_
 clear hK13 K13
 refine x5x fun K15 hK15 => ?_
 refine x4x x6x (by rfl) ?_
 refine x0x rfl z8z rfl rfl y6y rfl rfl ?_
 refine x3x rfl y6y rfl rfl ?_
 refine x0x rfl z8z rfl rfl y6y rfl rfl ?_
 refine x3x rfl y6y rfl rfl ?_
 refine y1y rfl rfl rfl ?_
 refine x8x rfl (fun hc16 => ?_) (fun hc16 => ?_)
 ·try simp at hc16
  refine x4x x6x (by rfl) ?_
  refine x2x rfl ?_
  refine y0y ⟨.inr rfl, ?_⟩
  clear hK15 K15
  refine y8y rfl ?_ rfl
  exact kF (by intro h; subst h; simp_all)
 try simp at hc16
 refine x9x ?_
 refine hK15 _ _ ?_
 clear hK15 K15
 refine x5x fun K17 hK17 => ?_
 refine x4x x6x (by rfl) ?_
 refine x0x rfl z8z rfl rfl y6y rfl rfl ?_
 refine x3x rfl y6y rfl rfl ?_
 refine x0x rfl z8z rfl rfl y6y rfl rfl ?_
 refine x3x rfl y6y rfl rfl ?_
 refine y1y rfl rfl rfl ?_
 refine x8x rfl (fun hc18 => ?_) (fun hc18 => ?_)
 ·try simp at hc18
  refine x4x x6x (by rfl) ?_
  refine x2x rfl ?_
  refine y0y ⟨.inr rfl, ?_⟩
  clear hK17 K17
  refine y8y rfl ?_ rfl
  exact kF (by intro h; subst h; simp_all)
 try simp at hc18
 refine x9x ?_
 refine hK17 _ _ ?_
 clear hK17 K17
 refine x5x fun K19 hK19 => ?_
 refine x4x x6x (by rfl) ?_
 refine x0x rfl z8z rfl rfl p1p rfl rfl ?_
 refine x3x rfl p1p rfl rfl ?_
 refine x0x rfl z8z rfl rfl p1p rfl rfl ?_
 refine x3x rfl p1p rfl rfl ?_
 refine y9y rfl rfl rfl (b6j ..) ?_
 refine w3w rfl ?_
 refine x8x rfl (fun hc20 => ?_) (fun hc20 => ?_)
 ·try simp at hc20
  refine x4x x6x (by rfl) ?_
  refine x2x rfl ?_
  refine y0y ⟨.inr rfl, ?_⟩
  clear hK19 K19
  refine y8y rfl ?_ rfl
  exact kF (by intro h; subst h; simp_all)
 try simp at hc20
 refine x9x ?_
 refine hK19 _ _ ?_
 clear hK19 K19
 refine x5x fun K21 hK21 => ?_
 refine x4x x6x (by rfl) ?_
 refine x0x rfl z8z rfl rfl v7v rfl rfl ?_
 refine x3x rfl v7v rfl rfl ?_
 refine x0x rfl z8z rfl rfl v7v rfl rfl ?_
 refine x3x rfl v7v rfl rfl ?_
 refine y9y rfl rfl rfl (a7g ..) ?_
 refine w3w rfl ?_
 refine x8x rfl (fun hc22 => ?_) (fun hc22 => ?_)
 ·try simp at hc22
  refine x4x x6x (by rfl) ?_
  refine x2x rfl ?_
  refine y0y ⟨.inr rfl, ?_⟩
  clear hK21 K21
  refine y8y rfl ?_ rfl
  exact kF (by intro h; subst h; simp_all)
 try simp at hc22
 refine x9x ?_
 refine hK21 _ _ ?_
 clear hK21 K21
 refine x5x fun K23 hK23 => ?_
 refine x4x x6x (by rfl) ?_
 refine x0x rfl z8z rfl rfl y6y rfl rfl ?_
 refine x3x rfl y6y rfl rfl ?_
 refine x0x rfl z8z rfl rfl y6y rfl rfl ?_
 refine x3x rfl y6y rfl rfl ?_
 refine y1y rfl rfl rfl ?_
 refine x8x rfl (fun hc24 => ?_) (fun hc24 => ?_)
 ·try simp at hc24
  refine x4x x6x (by rfl) ?_
  refine x2x rfl ?_
  refine y0y ⟨.inr rfl, ?_⟩
  clear hK23 K23
  refine y8y rfl ?_ rfl
  exact kF (by intro h; subst h; simp_all)
 try simp at hc24
 refine x9x ?_
 refine hK23 _ _ ?_
 clear hK23 K23
 refine x5x fun K25 hK25 => ?_
 refine x4x x6x (by rfl) ?_
 refine x0x rfl z8z rfl rfl y6y rfl rfl ?_
 refine x3x rfl y6y rfl rfl ?_
 refine x0x rfl z8z rfl rfl y6y rfl rfl ?_
 refine x3x rfl y6y rfl rfl ?_
 refine y1y rfl rfl rfl ?_
 refine x8x rfl (fun hc26 => ?_) (fun hc26 => ?_)
 ·try simp at hc26
  refine x4x x6x (by rfl) ?_
  refine x2x rfl ?_
  refine y0y ⟨.inr rfl, ?_⟩
  clear hK25 K25
  refine y8y rfl ?_ rfl
  exact kF (by intro h; subst h; simp_all)
 try simp at hc26
 refine x9x ?_
 refine hK25 _ _ ?_
 clear hK25 K25
 refine x4x x6x (by rfl) ?_
 refine x2x rfl ?_
 refine y0y ⟨.inr rfl, ?_⟩
 refine y8y rfl ?_ rfl
 exact kT (by cases a; cases b; simp_all)
end
section
theorem a4v (c : Bool) (l : List Int) (k : Nat) (hk : k + szs zI l ≤ 1000000000) : s8s Tryz.prog 94 [a3s c (mks zI kI k l), .pv (.int .i64 (k : Int))] (.pv (.int .i64 ((k + szs zI l : Nat) : Int))) := by
 refine z1z x6x (fn := Tryz.f94) (by kernel_rfl) (by kernel_rfl) rfl (outs := [.pv (.int .i64 ((k + szs zI l : Nat) : Int))]) (by rfl) (Nat.le_of_ble_eq_true rfl) 0 ?_
 have hml := a3o zI kI k l
 have hll := a3p zI (fun p => by unfold zI; omega) l
 refine x4x x6x (by rfl) ?_
 refine x2x rfl ?_
 refine x5x fun K1 hK1 => ?_
 refine x4x x6x (by rfl) ?_
 refine x2x rfl ?_
 refine y7y ?_
 refine u5u (ι := Nat) (fun i γ1 => [(1, .pv (.int .i64 ((k + szs zI (l.take i) : Nat) : Int))), (5, .pv (.int .i64 (i : Int)))]) (fun i γ1 => []) (fun i => i ≤ l.length) (fun i => l.length - i) (Cov.cons (t := 0) rfl Cov.nil) HE.nil 0 (by omega) [] (Cov.cons' (t := 1) rfl (by rw [List.take_zero]; rfl) (Cov.cons (t := 5) rfl Cov.nil)) HE.nil rfl fun i γ1 hi => ?_
 try dsimp only [List.cons_append, List.nil_append]
 refine x5x fun K2 hK2 => ?_
 refine x4x x6x (by rfl) ?_
 refine x1x rfl ?_
 refine x1x rfl ?_
 refine u0u rfl v7v rfl ?_
 refine y1y rfl rfl rfl ?_
 refine x8x rfl (fun hc3 => ?_) (fun hc3 => ?_)
 rotate_left
 ·try simp at hc3
  obtain rfl : i = l.length := by omega
  refine v0v ?_
  refine hK1 _ _ ?_
  clear hK2 K2 hK1 K1
  refine x4x x6x (by rfl) ?_
  refine x1x rfl ?_
  refine x2x rfl ?_
  refine y0y ⟨.inr rfl, ?_⟩
  refine y8y rfl ?_ rfl
  rw [List.take_length]
 try simp at hc3
 obtain ⟨p, hp⟩ : ∃ p, l[i]? = some p := ⟨_, List.getElem?_eq_getElem (by omega)⟩
 have hmk := a3q zI kI (k := k) hp
 have hat := a1z zI hp
 have hzp : zI p = 1 := rfl
 obtain ⟨q, hq⟩ : ∃ q, q = k + szs zI (l.take i) := ⟨_, rfl⟩
 rw [← hq] at hmk ⊢
 refine x9x ?_
 refine hK2 _ _ ?_
 clear hK2 K2
 refine x5x fun K4 hK4 => ?_
 refine y7y ?_
 refine x5x fun K5 hK5 => ?_
 refine x4x x6x (by rfl) ?_
 refine x1x rfl ?_
 refine x1x rfl ?_
 refine z7z rfl rfl v7v rfl y6y rfl (by assumption) ?_
 refine z4z rfl y6y rfl ?_
 refine x1x rfl ?_
 refine y1y rfl rfl rfl ?_
 refine x8x rfl (fun hc6 => ?_) (fun hc6 => ?_)
 ·(simp [kI, kEv, kOu, kPa, kLa, kVi, mEv, mOu, mSt] at hc6; done)
 try simp at hc6
 refine x9x ?_
 refine hK5 _ _ ?_
 clear hK5 K5
 refine y3y x6x (by rfl) ?_
 refine x1x rfl ?_
 refine z9z (b := 1) rfl rfl (by omega) ?_
 refine x2x rfl ?_
 refine hK4 _ _ ?_
 clear hK4 K4
 refine y3y x6x (by rfl) ?_
 refine x1x rfl ?_
 refine z9z (b := 1) rfl rfl (by omega) ?_
 refine x2x rfl ?_
 exact ⟨i + 1, ⟨by omega, by omega⟩, [], (Cov.cons' (t := 1) rfl (by rw [s3s zI hp]; exact congrArg (fun v : Nat => AV.pv (.int .i64 (v : Int))) (by omega)) (Cov.cons (t := 5) rfl Cov.nil)), (Cov.cons (t := 0) rfl Cov.nil), HE.nil, HE.nil, rfl⟩
theorem a1s (c : Bool) (l : List Ev) (k : Nat) (hk : k + szs zEv l ≤ 1000000000) : s8s Tryz.prog 91 [a1n c (mks zEv kEv k l), .pv (.int .i64 (k : Int))] (.pv (.int .i64 ((k + szs zEv l : Nat) : Int))) := by
 refine z1z x6x (fn := Tryz.f91) (by kernel_rfl) (by kernel_rfl) rfl (outs := [.pv (.int .i64 ((k + szs zEv l : Nat) : Int))]) (by rfl) (Nat.le_of_ble_eq_true rfl) 0 ?_
 have hml := a3o zEv kEv k l
 have hll := a3p zEv (fun p => by unfold zEv; omega) l
 refine x4x x6x (by rfl) ?_
 refine x2x rfl ?_
 refine x5x fun K1 hK1 => ?_
 refine x4x x6x (by rfl) ?_
 refine x2x rfl ?_
 refine y7y ?_
 refine u5u (ι := Nat) (fun i γ1 => [(1, .pv (.int .i64 ((k + szs zEv (l.take i) : Nat) : Int))), (5, .pv (.int .i64 (i : Int)))]) (fun i γ1 => []) (fun i => i ≤ l.length) (fun i => l.length - i) (Cov.cons (t := 0) rfl Cov.nil) HE.nil 0 (by omega) [] (Cov.cons' (t := 1) rfl (by rw [List.take_zero]; rfl) (Cov.cons (t := 5) rfl Cov.nil)) HE.nil rfl fun i γ1 hi => ?_
 try dsimp only [List.cons_append, List.nil_append]
 refine x5x fun K2 hK2 => ?_
 refine x4x x6x (by rfl) ?_
 refine x1x rfl ?_
 refine x1x rfl ?_
 refine u0u rfl u7u rfl ?_
 refine y1y rfl rfl rfl ?_
 refine x8x rfl (fun hc3 => ?_) (fun hc3 => ?_)
 rotate_left
 ·try simp at hc3
  obtain rfl : i = l.length := by omega
  refine v0v ?_
  refine hK1 _ _ ?_
  clear hK2 K2 hK1 K1
  refine x4x x6x (by rfl) ?_
  refine x1x rfl ?_
  refine x2x rfl ?_
  refine y0y ⟨.inr rfl, ?_⟩
  refine y8y rfl ?_ rfl
  rw [List.take_length]
 try simp at hc3
 obtain ⟨p, hp⟩ : ∃ p, l[i]? = some p := ⟨_, List.getElem?_eq_getElem (by omega)⟩
 have hmk := a3q zEv kEv (k := k) hp
 have hat := a1z zEv hp
 have hzp : zEv p = 7 := rfl
 obtain ⟨q, hq⟩ : ∃ q, q = k + szs zEv (l.take i) := ⟨_, rfl⟩
 rw [← hq] at hmk ⊢
 refine x9x ?_
 refine hK2 _ _ ?_
 clear hK2 K2
 refine x5x fun K4 hK4 => ?_
 refine y7y ?_
 refine x5x fun K5 hK5 => ?_
 refine x4x x6x (by rfl) ?_
 refine x1x rfl ?_
 refine x1x rfl ?_
 refine z7z rfl rfl u7u rfl z3z rfl (by assumption) ?_
 refine x0x rfl z3z rfl rfl y6y rfl rfl ?_
 refine z4z rfl y6y rfl ?_
 refine x1x rfl ?_
 refine y1y rfl rfl rfl ?_
 refine x8x rfl (fun hc6 => ?_) (fun hc6 => ?_)
 ·(simp [kI, kEv, kOu, kPa, kLa, kVi, mEv, mOu, mSt] at hc6; done)
 try simp at hc6
 refine x9x ?_
 refine hK5 _ _ ?_
 clear hK5 K5
 refine x4x x6x (by rfl) ?_
 refine x1x rfl ?_
 refine z9z (b := 1) rfl rfl (by omega) ?_
 refine x2x rfl ?_
 refine x5x fun K7 hK7 => ?_
 refine x4x x6x (by rfl) ?_
 refine x1x rfl ?_
 refine x1x rfl ?_
 refine z7z rfl rfl u7u rfl z3z rfl (by assumption) ?_
 refine x0x rfl z3z rfl rfl y6y rfl rfl ?_
 refine z4z rfl y6y rfl ?_
 refine x1x rfl ?_
 refine y1y rfl rfl rfl ?_
 refine x8x rfl (fun hc8 => ?_) (fun hc8 => ?_)
 ·(simp [kI, kEv, kOu, kPa, kLa, kVi, mEv, mOu, mSt] at hc8; done)
 try simp at hc8
 refine x9x ?_
 refine hK7 _ _ ?_
 clear hK7 K7
 refine x4x x6x (by rfl) ?_
 refine x1x rfl ?_
 refine z9z (b := 1) rfl rfl (by omega) ?_
 refine x2x rfl ?_
 refine x5x fun K9 hK9 => ?_
 refine x4x x6x (by rfl) ?_
 refine x1x rfl ?_
 refine x1x rfl ?_
 refine z7z rfl rfl u7u rfl z3z rfl (by assumption) ?_
 refine x0x rfl z3z rfl rfl y6y rfl rfl ?_
 refine z4z rfl y6y rfl ?_
 refine x1x rfl ?_
 refine y1y rfl rfl rfl ?_
 refine x8x rfl (fun hc10 => ?_) (fun hc10 => ?_)
 ·(simp [kI, kEv, kOu, kPa, kLa, kVi, mEv, mOu, mSt] at hc10; done)
 try simp at hc10
 refine x9x ?_
 refine hK9 _ _ ?_
 clear hK9 K9
 refine x4x x6x (by rfl) ?_
 refine x1x rfl ?_
 refine z9z (b := 1) rfl rfl (by omega) ?_
 refine x2x rfl ?_
 refine x5x fun K11 hK11 => ?_
 refine x4x x6x (by rfl) ?_
 refine x1x rfl ?_
 refine x1x rfl ?_
 refine z7z rfl rfl u7u rfl z3z rfl (by assumption) ?_
 refine x0x rfl z3z rfl rfl y6y rfl rfl ?_
 refine z4z rfl y6y rfl ?_
 refine x1x rfl ?_
 refine y1y rfl rfl rfl ?_
 refine x8x rfl (fun hc12 => ?_) (fun hc12 => ?_)
 ·(simp [kI, kEv, kOu, kPa, kLa, kVi, mEv, mOu, mSt] at hc12; done)
 try simp at hc12
 refine x9x ?_
 refine hK11 _ _ ?_
 clear hK11 K11
 refine x4x x6x (by rfl) ?_
 refine x1x rfl ?_
 refine z9z (b := 1) rfl rfl (by omega) ?_
 refine x2x rfl ?_
 refine x5x fun K13 hK13 => ?_
 refine x4x x6x (by rfl) ?_
 refine x1x rfl ?_
 refine x1x rfl ?_
 refine z7z rfl rfl u7u rfl z3z rfl (by assumption) ?_
 refine x0x rfl z3z rfl rfl y6y rfl rfl ?_
 refine z4z rfl y6y rfl ?_
 refine x1x rfl ?_
 refine y1y rfl rfl rfl ?_
 refine x8x rfl (fun hc14 => ?_) (fun hc14 => ?_)
 ·(simp [kI, kEv, kOu, kPa, kLa, kVi, mEv, mOu, mSt] at hc14; done)
 try simp at hc14
 refine x9x ?_
 refine hK13 _ _ ?_
 clear hK13 K13
 refine x4x x6x (by rfl) ?_
 refine x1x rfl ?_
 refine z9z (b := 1) rfl rfl (by omega) ?_
 refine x2x rfl ?_
 refine x5x fun K15 hK15 => ?_
 refine x4x x6x (by rfl) ?_
 refine x1x rfl ?_
 refine x1x rfl ?_
 refine z7z rfl rfl u7u rfl z3z rfl (by assumption) ?_
 refine x0x rfl z3z rfl rfl y6y rfl rfl ?_
 refine z4z rfl y6y rfl ?_
 refine x1x rfl ?_
 refine y1y rfl rfl rfl ?_
 refine x8x rfl (fun hc16 => ?_) (fun hc16 => ?_)
 ·(simp [kI, kEv, kOu, kPa, kLa, kVi, mEv, mOu, mSt] at hc16; done)
 try simp at hc16
 refine x9x ?_
 refine hK15 _ _ ?_
 clear hK15 K15
 refine x4x x6x (by rfl) ?_
 refine x1x rfl ?_
 refine z9z (b := 1) rfl rfl (by omega) ?_
 refine x2x rfl ?_
 refine x5x fun K17 hK17 => ?_
 refine x4x x6x (by rfl) ?_
 refine x1x rfl ?_
 refine x1x rfl ?_
 refine z7z rfl rfl u7u rfl z3z rfl (by assumption) ?_
 refine x0x rfl z3z rfl rfl y6y rfl rfl ?_
 refine z4z rfl y6y rfl ?_
 refine x1x rfl ?_
 refine y1y rfl rfl rfl ?_
 refine x8x rfl (fun hc18 => ?_) (fun hc18 => ?_)
 ·(simp [kI, kEv, kOu, kPa, kLa, kVi, mEv, mOu, mSt] at hc18; done)
 try simp at hc18
 refine x9x ?_
 refine hK17 _ _ ?_
 clear hK17 K17
 refine y3y x6x (by rfl) ?_
 refine x1x rfl ?_
 refine z9z (b := 1) rfl rfl (by omega) ?_
 refine x2x rfl ?_
 refine hK4 _ _ ?_
 clear hK4 K4
 refine y3y x6x (by rfl) ?_
 refine x1x rfl ?_
 refine z9z (b := 1) rfl rfl (by omega) ?_
 refine x2x rfl ?_
 exact ⟨i + 1, ⟨by omega, by omega⟩, [], (Cov.cons' (t := 1) rfl (by rw [s3s zEv hp]; exact congrArg (fun v : Nat => AV.pv (.int .i64 (v : Int))) (by omega)) (Cov.cons (t := 5) rfl Cov.nil)), (Cov.cons (t := 0) rfl Cov.nil), HE.nil, HE.nil, rfl⟩
theorem a4w (c : Bool) (l : List Ou) (k : Nat) (hk : k + szs zOu l ≤ 1000000000) : s8s Tryz.prog 92 [a3k c (mks zOu kOu k l), .pv (.int .i64 (k : Int))] (.pv (.int .i64 ((k + szs zOu l : Nat) : Int))) := by
 refine z1z x6x (fn := Tryz.f92) (by kernel_rfl) (by kernel_rfl) rfl (outs := [.pv (.int .i64 ((k + szs zOu l : Nat) : Int))]) (by rfl) (Nat.le_of_ble_eq_true rfl) 0 ?_
 have hml := a3o zOu kOu k l
 have hll := a3p zOu (fun p => by unfold zOu; omega) l
 refine x4x x6x (by rfl) ?_
 refine x2x rfl ?_
 refine x5x fun K1 hK1 => ?_
 refine x4x x6x (by rfl) ?_
 refine x2x rfl ?_
 refine y7y ?_
 refine u5u (ι := Nat) (fun i γ1 => [(1, .pv (.int .i64 ((k + szs zOu (l.take i) : Nat) : Int))), (5, .pv (.int .i64 (i : Int)))]) (fun i γ1 => []) (fun i => i ≤ l.length) (fun i => l.length - i) (Cov.cons (t := 0) rfl Cov.nil) HE.nil 0 (by omega) [] (Cov.cons' (t := 1) rfl (by rw [List.take_zero]; rfl) (Cov.cons (t := 5) rfl Cov.nil)) HE.nil rfl fun i γ1 hi => ?_
 try dsimp only [List.cons_append, List.nil_append]
 refine x5x fun K2 hK2 => ?_
 refine x4x x6x (by rfl) ?_
 refine x1x rfl ?_
 refine x1x rfl ?_
 refine u0u rfl w6w rfl ?_
 refine y1y rfl rfl rfl ?_
 refine x8x rfl (fun hc3 => ?_) (fun hc3 => ?_)
 rotate_left
 ·try simp at hc3
  obtain rfl : i = l.length := by omega
  refine v0v ?_
  refine hK1 _ _ ?_
  clear hK2 K2 hK1 K1
  refine x4x x6x (by rfl) ?_
  refine x1x rfl ?_
  refine x2x rfl ?_
  refine y0y ⟨.inr rfl, ?_⟩
  refine y8y rfl ?_ rfl
  rw [List.take_length]
 try simp at hc3
 obtain ⟨p, hp⟩ : ∃ p, l[i]? = some p := ⟨_, List.getElem?_eq_getElem (by omega)⟩
 have hmk := a3q zOu kOu (k := k) hp
 have hat := a1z zOu hp
 have hzp : zOu p = 5 := rfl
 obtain ⟨q, hq⟩ : ∃ q, q = k + szs zOu (l.take i) := ⟨_, rfl⟩
 rw [← hq] at hmk ⊢
 refine x9x ?_
 refine hK2 _ _ ?_
 clear hK2 K2
 refine x5x fun K4 hK4 => ?_
 refine y7y ?_
 refine x5x fun K5 hK5 => ?_
 refine x4x x6x (by rfl) ?_
 refine x1x rfl ?_
 refine x1x rfl ?_
 refine z7z rfl rfl w6w rfl v2v rfl (by assumption) ?_
 refine x0x rfl v2v rfl rfl y6y rfl rfl ?_
 refine z4z rfl y6y rfl ?_
 refine x1x rfl ?_
 refine y1y rfl rfl rfl ?_
 refine x8x rfl (fun hc6 => ?_) (fun hc6 => ?_)
 ·(simp [kI, kEv, kOu, kPa, kLa, kVi, mEv, mOu, mSt] at hc6; done)
 try simp at hc6
 refine x9x ?_
 refine hK5 _ _ ?_
 clear hK5 K5
 refine x4x x6x (by rfl) ?_
 refine x1x rfl ?_
 refine z9z (b := 1) rfl rfl (by omega) ?_
 refine x2x rfl ?_
 refine x5x fun K7 hK7 => ?_
 refine x4x x6x (by rfl) ?_
 refine x1x rfl ?_
 refine x1x rfl ?_
 refine z7z rfl rfl w6w rfl v2v rfl (by assumption) ?_
 refine x0x rfl v2v rfl rfl y6y rfl rfl ?_
 refine z4z rfl y6y rfl ?_
 refine x1x rfl ?_
 refine y1y rfl rfl rfl ?_
 refine x8x rfl (fun hc8 => ?_) (fun hc8 => ?_)
 ·(simp [kI, kEv, kOu, kPa, kLa, kVi, mEv, mOu, mSt] at hc8; done)
 try simp at hc8
 refine x9x ?_
 refine hK7 _ _ ?_
 clear hK7 K7
 refine x4x x6x (by rfl) ?_
 refine x1x rfl ?_
 refine z9z (b := 1) rfl rfl (by omega) ?_
 refine x2x rfl ?_
 refine x5x fun K9 hK9 => ?_
 refine x4x x6x (by rfl) ?_
 refine x1x rfl ?_
 refine x1x rfl ?_
 refine z7z rfl rfl w6w rfl v2v rfl (by assumption) ?_
 refine x0x rfl v2v rfl rfl y6y rfl rfl ?_
 refine z4z rfl y6y rfl ?_
 refine x1x rfl ?_
 refine y1y rfl rfl rfl ?_
 refine x8x rfl (fun hc10 => ?_) (fun hc10 => ?_)
 ·(simp [kI, kEv, kOu, kPa, kLa, kVi, mEv, mOu, mSt] at hc10; done)
 try simp at hc10
 refine x9x ?_
 refine hK9 _ _ ?_
 clear hK9 K9
 refine x4x x6x (by rfl) ?_
 refine x1x rfl ?_
 refine z9z (b := 1) rfl rfl (by omega) ?_
 refine x2x rfl ?_
 refine x5x fun K11 hK11 => ?_
 refine x4x x6x (by rfl) ?_
 refine x1x rfl ?_
 refine x1x rfl ?_
 refine z7z rfl rfl w6w rfl v2v rfl (by assumption) ?_
 refine x0x rfl v2v rfl rfl y6y rfl rfl ?_
 refine z4z rfl y6y rfl ?_
 refine x1x rfl ?_
 refine y1y rfl rfl rfl ?_
 refine x8x rfl (fun hc12 => ?_) (fun hc12 => ?_)
 ·(simp [kI, kEv, kOu, kPa, kLa, kVi, mEv, mOu, mSt] at hc12; done)
 try simp at hc12
 refine x9x ?_
 refine hK11 _ _ ?_
 clear hK11 K11
 refine x4x x6x (by rfl) ?_
 refine x1x rfl ?_
 refine z9z (b := 1) rfl rfl (by omega) ?_
 refine x2x rfl ?_
 refine x5x fun K13 hK13 => ?_
 refine x4x x6x (by rfl) ?_
 refine x1x rfl ?_
 refine x1x rfl ?_
 refine z7z rfl rfl w6w rfl v2v rfl (by assumption) ?_
 refine x0x rfl v2v rfl rfl y6y rfl rfl ?_
 refine z4z rfl y6y rfl ?_
 refine x1x rfl ?_
 refine y1y rfl rfl rfl ?_
 refine x8x rfl (fun hc14 => ?_) (fun hc14 => ?_)
 ·(simp [kI, kEv, kOu, kPa, kLa, kVi, mEv, mOu, mSt] at hc14; done)
 try simp at hc14
 refine x9x ?_
 refine hK13 _ _ ?_
 clear hK13 K13
 refine y3y x6x (by rfl) ?_
 refine x1x rfl ?_
 refine z9z (b := 1) rfl rfl (by omega) ?_
 refine x2x rfl ?_
 refine hK4 _ _ ?_
 clear hK4 K4
 refine y3y x6x (by rfl) ?_
 refine x1x rfl ?_
 refine z9z (b := 1) rfl rfl (by omega) ?_
 refine x2x rfl ?_
 exact ⟨i + 1, ⟨by omega, by omega⟩, [], (Cov.cons' (t := 1) rfl (by rw [s3s zOu hp]; exact congrArg (fun v : Nat => AV.pv (.int .i64 (v : Int))) (by omega)) (Cov.cons (t := 5) rfl Cov.nil)), (Cov.cons (t := 0) rfl Cov.nil), HE.nil, HE.nil, rfl⟩
theorem b3e (c : Bool) (l : List Pa) (k : Nat) (hk : k + szs zPa l ≤ 1000000000) : s8s Tryz.prog 180 [a7l c (mks zPa kPa k l), .pv (.int .i64 (k : Int))] (.pv (.int .i64 ((k + szs zPa l : Nat) : Int))) := by
 refine z1z x6x (fn := Tryz.f180) (by kernel_rfl) (by kernel_rfl) rfl (outs := [.pv (.int .i64 ((k + szs zPa l : Nat) : Int))]) (by rfl) (Nat.le_of_ble_eq_true rfl) 0 ?_
 have hml := a3o zPa kPa k l
 have hll := a3p zPa (fun p => by unfold zPa; omega) l
 refine x4x x6x (by rfl) ?_
 refine x2x rfl ?_
 refine x5x fun K1 hK1 => ?_
 refine x4x x6x (by rfl) ?_
 refine x2x rfl ?_
 refine y7y ?_
 refine u5u (ι := Nat) (fun i γ1 => [(1, .pv (.int .i64 ((k + szs zPa (l.take i) : Nat) : Int))), (5, .pv (.int .i64 (i : Int)))]) (fun i γ1 => []) (fun i => i ≤ l.length) (fun i => l.length - i) (Cov.cons (t := 0) rfl Cov.nil) HE.nil 0 (by omega) [] (Cov.cons' (t := 1) rfl (by rw [List.take_zero]; rfl) (Cov.cons (t := 5) rfl Cov.nil)) HE.nil rfl fun i γ1 hi => ?_
 try dsimp only [List.cons_append, List.nil_append]
 refine x5x fun K2 hK2 => ?_
 refine x4x x6x (by rfl) ?_
 refine x1x rfl ?_
 refine x1x rfl ?_
 refine u0u rfl v9v rfl ?_
 refine y1y rfl rfl rfl ?_
 refine x8x rfl (fun hc3 => ?_) (fun hc3 => ?_)
 rotate_left
 ·try simp at hc3
  obtain rfl : i = l.length := by omega
  refine v0v ?_
  refine hK1 _ _ ?_
  clear hK2 K2 hK1 K1
  refine x4x x6x (by rfl) ?_
  refine x1x rfl ?_
  refine x2x rfl ?_
  refine y0y ⟨.inr rfl, ?_⟩
  refine y8y rfl ?_ rfl
  rw [List.take_length]
 try simp at hc3
 obtain ⟨p, hp⟩ : ∃ p, l[i]? = some p := ⟨_, List.getElem?_eq_getElem (by omega)⟩
 have hmk := a3q zPa kPa (k := k) hp
 have hat := a1z zPa hp
 have hzp : zPa p = 10 + szs zEv p.sends + szs zOu p.outs := rfl
 obtain ⟨q, hq⟩ : ∃ q, q = k + szs zPa (l.take i) := ⟨_, rfl⟩
 rw [← hq] at hmk ⊢
 refine x9x ?_
 refine hK2 _ _ ?_
 clear hK2 K2
 refine x5x fun K4 hK4 => ?_
 refine y7y ?_
 refine x5x fun K5 hK5 => ?_
 refine x4x x6x (by rfl) ?_
 refine x1x rfl ?_
 refine x1x rfl ?_
 refine z7z rfl rfl v9v rfl v8v rfl (by assumption) ?_
 refine x0x rfl v8v rfl rfl z3z rfl rfl ?_
 refine x0x rfl z3z rfl rfl y6y rfl rfl ?_
 refine z4z rfl y6y rfl ?_
 refine x1x rfl ?_
 refine y1y rfl rfl rfl ?_
 refine x8x rfl (fun hc6 => ?_) (fun hc6 => ?_)
 ·(simp [kI, kEv, kOu, kPa, kLa, kVi, mEv, mOu, mSt] at hc6; done)
 try simp at hc6
 refine x9x ?_
 refine hK5 _ _ ?_
 clear hK5 K5
 refine x4x x6x (by rfl) ?_
 refine x1x rfl ?_
 refine z9z (b := 1) rfl rfl (by omega) ?_
 refine x2x rfl ?_
 refine x5x fun K7 hK7 => ?_
 refine x4x x6x (by rfl) ?_
 refine x1x rfl ?_
 refine x1x rfl ?_
 refine z7z rfl rfl v9v rfl v8v rfl (by assumption) ?_
 refine x0x rfl v8v rfl rfl z3z rfl rfl ?_
 refine x0x rfl z3z rfl rfl y6y rfl rfl ?_
 refine z4z rfl y6y rfl ?_
 refine x1x rfl ?_
 refine y1y rfl rfl rfl ?_
 refine x8x rfl (fun hc8 => ?_) (fun hc8 => ?_)
 ·(simp [kI, kEv, kOu, kPa, kLa, kVi, mEv, mOu, mSt] at hc8; done)
 try simp at hc8
 refine x9x ?_
 refine hK7 _ _ ?_
 clear hK7 K7
 refine x4x x6x (by rfl) ?_
 refine x1x rfl ?_
 refine z9z (b := 1) rfl rfl (by omega) ?_
 refine x2x rfl ?_
 refine x5x fun K9 hK9 => ?_
 refine x4x x6x (by rfl) ?_
 refine x1x rfl ?_
 refine x1x rfl ?_
 refine z7z rfl rfl v9v rfl v8v rfl (by assumption) ?_
 refine x0x rfl v8v rfl rfl z3z rfl rfl ?_
 refine x0x rfl z3z rfl rfl y6y rfl rfl ?_
 refine z4z rfl y6y rfl ?_
 refine x1x rfl ?_
 refine y1y rfl rfl rfl ?_
 refine x8x rfl (fun hc10 => ?_) (fun hc10 => ?_)
 ·(simp [kI, kEv, kOu, kPa, kLa, kVi, mEv, mOu, mSt] at hc10; done)
 try simp at hc10
 refine x9x ?_
 refine hK9 _ _ ?_
 clear hK9 K9
 refine x4x x6x (by rfl) ?_
 refine x1x rfl ?_
 refine z9z (b := 1) rfl rfl (by omega) ?_
 refine x2x rfl ?_
 refine x5x fun K11 hK11 => ?_
 refine x4x x6x (by rfl) ?_
 refine x1x rfl ?_
 refine x1x rfl ?_
 refine z7z rfl rfl v9v rfl v8v rfl (by assumption) ?_
 refine x0x rfl v8v rfl rfl z3z rfl rfl ?_
 refine x0x rfl z3z rfl rfl y6y rfl rfl ?_
 refine z4z rfl y6y rfl ?_
 refine x1x rfl ?_
 refine y1y rfl rfl rfl ?_
 refine x8x rfl (fun hc12 => ?_) (fun hc12 => ?_)
 ·(simp [kI, kEv, kOu, kPa, kLa, kVi, mEv, mOu, mSt] at hc12; done)
 try simp at hc12
 refine x9x ?_
 refine hK11 _ _ ?_
 clear hK11 K11
 refine x4x x6x (by rfl) ?_
 refine x1x rfl ?_
 refine z9z (b := 1) rfl rfl (by omega) ?_
 refine x2x rfl ?_
 refine x5x fun K13 hK13 => ?_
 refine x4x x6x (by rfl) ?_
 refine x1x rfl ?_
 refine x1x rfl ?_
 refine z7z rfl rfl v9v rfl v8v rfl (by assumption) ?_
 refine x0x rfl v8v rfl rfl z3z rfl rfl ?_
 refine x0x rfl z3z rfl rfl y6y rfl rfl ?_
 refine z4z rfl y6y rfl ?_
 refine x1x rfl ?_
 refine y1y rfl rfl rfl ?_
 refine x8x rfl (fun hc14 => ?_) (fun hc14 => ?_)
 ·(simp [kI, kEv, kOu, kPa, kLa, kVi, mEv, mOu, mSt] at hc14; done)
 try simp at hc14
 refine x9x ?_
 refine hK13 _ _ ?_
 clear hK13 K13
 refine x4x x6x (by rfl) ?_
 refine x1x rfl ?_
 refine z9z (b := 1) rfl rfl (by omega) ?_
 refine x2x rfl ?_
 refine x5x fun K15 hK15 => ?_
 refine x4x x6x (by rfl) ?_
 refine x1x rfl ?_
 refine x1x rfl ?_
 refine z7z rfl rfl v9v rfl v8v rfl (by assumption) ?_
 refine x0x rfl v8v rfl rfl z3z rfl rfl ?_
 refine x0x rfl z3z rfl rfl y6y rfl rfl ?_
 refine z4z rfl y6y rfl ?_
 refine x1x rfl ?_
 refine y1y rfl rfl rfl ?_
 refine x8x rfl (fun hc16 => ?_) (fun hc16 => ?_)
 ·(simp [kI, kEv, kOu, kPa, kLa, kVi, mEv, mOu, mSt] at hc16; done)
 try simp at hc16
 refine x9x ?_
 refine hK15 _ _ ?_
 clear hK15 K15
 refine x4x x6x (by rfl) ?_
 refine x1x rfl ?_
 refine z9z (b := 1) rfl rfl (by omega) ?_
 refine x2x rfl ?_
 refine x5x fun K17 hK17 => ?_
 refine x4x x6x (by rfl) ?_
 refine x1x rfl ?_
 refine x1x rfl ?_
 refine z7z rfl rfl v9v rfl v8v rfl (by assumption) ?_
 refine x0x rfl v8v rfl rfl z3z rfl rfl ?_
 refine x0x rfl z3z rfl rfl y6y rfl rfl ?_
 refine z4z rfl y6y rfl ?_
 refine x1x rfl ?_
 refine y1y rfl rfl rfl ?_
 refine x8x rfl (fun hc18 => ?_) (fun hc18 => ?_)
 ·(simp [kI, kEv, kOu, kPa, kLa, kVi, mEv, mOu, mSt] at hc18; done)
 try simp at hc18
 refine x9x ?_
 refine hK17 _ _ ?_
 clear hK17 K17
 refine x4x x6x (by rfl) ?_
 refine x1x rfl ?_
 refine z9z (b := 1) rfl rfl (by omega) ?_
 refine x2x rfl ?_
 refine x5x fun K19 hK19 => ?_
 refine x4x x6x (by rfl) ?_
 refine x1x rfl ?_
 refine x1x rfl ?_
 refine z7z rfl rfl v9v rfl v8v rfl (by assumption) ?_
 refine x0x rfl v8v rfl rfl q5q rfl rfl ?_
 refine x0x rfl q5q rfl rfl y6y rfl rfl ?_
 refine z4z rfl y6y rfl ?_
 refine x1x rfl ?_
 refine y1y rfl rfl rfl ?_
 refine x8x rfl (fun hc20 => ?_) (fun hc20 => ?_)
 ·(simp [kI, kEv, kOu, kPa, kLa, kVi, mEv, mOu, mSt] at hc20; omega)
 try simp at hc20
 refine x9x ?_
 refine hK19 _ _ ?_
 clear hK19 K19
 refine x4x x6x (by rfl) ?_
 refine x1x rfl ?_
 refine z9z (b := 1) rfl rfl (by omega) ?_
 refine x2x rfl ?_
 refine x5x fun K21 hK21 => ?_
 refine x4x x6x (by rfl) ?_
 refine x1x rfl ?_
 refine x1x rfl ?_
 refine z7z rfl rfl v9v rfl v8v rfl (by assumption) ?_
 refine x0x rfl v8v rfl rfl q5q rfl rfl ?_
 refine x0x rfl q5q rfl rfl y6y rfl rfl ?_
 refine z4z rfl y6y rfl ?_
 refine x1x rfl ?_
 refine y1y rfl rfl rfl ?_
 refine x8x rfl (fun hc22 => ?_) (fun hc22 => ?_)
 ·(simp [kI, kEv, kOu, kPa, kLa, kVi, mEv, mOu, mSt] at hc22; omega)
 try simp at hc22
 refine x9x ?_
 refine hK21 _ _ ?_
 clear hK21 K21
 refine x4x x6x (by rfl) ?_
 refine x1x rfl ?_
 refine z9z (b := 1) rfl rfl (by omega) ?_
 refine x2x rfl ?_
 refine x5x fun K23 hK23 => ?_
 refine x4x x6x (by rfl) ?_
 refine x1x rfl ?_
 refine x1x rfl ?_
 refine z7z rfl rfl v9v rfl v8v rfl (by assumption) ?_
 refine x0x rfl v8v rfl rfl q5q rfl rfl ?_
 refine x0x rfl q5q rfl rfl y6y rfl rfl ?_
 refine z4z rfl y6y rfl ?_
 refine x1x rfl ?_
 refine y1y rfl rfl rfl ?_
 refine x8x rfl (fun hc24 => ?_) (fun hc24 => ?_)
 ·(simp [kI, kEv, kOu, kPa, kLa, kVi, mEv, mOu, mSt] at hc24; omega)
 try simp at hc24
 refine x9x ?_
 refine hK23 _ _ ?_
 clear hK23 K23
 refine x4x x6x (by rfl) ?_
 refine x1x rfl ?_
 refine z9z (b := 1) rfl rfl (by omega) ?_
 refine x2x rfl ?_
 refine x4x x6x (by rfl) ?_
 refine x1x rfl ?_
 refine x1x rfl ?_
 refine z7z rfl rfl v9v rfl v8v rfl (by assumption) ?_
 refine x0x rfl v8v rfl rfl u7u rfl rfl ?_
 refine z4z rfl u7u rfl ?_
 refine x1x rfl ?_
 refine y9y rfl rfl rfl (a1s c p.sends (q + 10) (by omega)) ?_
 refine x2x rfl ?_
 refine x5x fun K25 hK25 => ?_
 refine x4x x6x (by rfl) ?_
 refine x1x rfl ?_
 refine y1y rfl rfl rfl ?_
 refine x8x rfl (fun hc26 => ?_) (fun hc26 => ?_)
 ·(simp [kI, kEv, kOu, kPa, kLa, kVi, mEv, mOu, mSt] at hc26; omega)
 try simp at hc26
 refine x9x ?_
 refine hK25 _ _ ?_
 clear hK25 K25
 refine x4x x6x (by rfl) ?_
 refine x1x rfl ?_
 refine x1x rfl ?_
 refine z7z rfl rfl v9v rfl v8v rfl (by assumption) ?_
 refine x0x rfl v8v rfl rfl w6w rfl rfl ?_
 refine z4z rfl w6w rfl ?_
 refine x1x rfl ?_
 refine y9y rfl rfl rfl (a4w c p.outs (q + 10 + szs zEv p.sends) (by omega)) ?_
 refine x2x rfl ?_
 refine x4x x6x (by rfl) ?_
 refine x1x rfl ?_
 refine y1y rfl rfl rfl ?_
 refine x8x rfl (fun hc27 => ?_) (fun hc27 => ?_)
 ·(simp [kI, kEv, kOu, kPa, kLa, kVi, mEv, mOu, mSt] at hc27; omega)
 try simp at hc27
 refine x9x ?_
 refine hK4 _ _ ?_
 clear hK4 K4
 refine y3y x6x (by rfl) ?_
 refine x1x rfl ?_
 refine z9z (b := 1) rfl rfl (by omega) ?_
 refine x2x rfl ?_
 exact ⟨i + 1, ⟨by omega, by omega⟩, [], (Cov.cons' (t := 1) rfl (by rw [s3s zPa hp]; exact congrArg (fun v : Nat => AV.pv (.int .i64 (v : Int))) (by omega)) (Cov.cons (t := 5) rfl Cov.nil)), (Cov.cons (t := 0) rfl Cov.nil), HE.nil, HE.nil, rfl⟩
theorem b3f (c : Bool) (l : List La) (k : Nat) (hk : k + szs zLa l ≤ 1000000000) : s8s Tryz.prog 90 [b9u c (mks zLa kLa k l), .pv (.int .i64 (k : Int))] (.pv (.int .i64 ((k + szs zLa l : Nat) : Int))) := by
 refine z1z x6x (fn := Tryz.f90) (by kernel_rfl) (by kernel_rfl) rfl (outs := [.pv (.int .i64 ((k + szs zLa l : Nat) : Int))]) (by rfl) (Nat.le_of_ble_eq_true rfl) 0 ?_
 have hml := a3o zLa kLa k l
 have hll := a3p zLa (fun p => by unfold zLa; omega) l
 refine x4x x6x (by rfl) ?_
 refine x2x rfl ?_
 refine x5x fun K1 hK1 => ?_
 refine x4x x6x (by rfl) ?_
 refine x2x rfl ?_
 refine y7y ?_
 refine u5u (ι := Nat) (fun i γ1 => [(1, .pv (.int .i64 ((k + szs zLa (l.take i) : Nat) : Int))), (5, .pv (.int .i64 (i : Int)))]) (fun i γ1 => []) (fun i => i ≤ l.length) (fun i => l.length - i) (Cov.cons (t := 0) rfl Cov.nil) HE.nil 0 (by omega) [] (Cov.cons' (t := 1) rfl (by rw [List.take_zero]; rfl) (Cov.cons (t := 5) rfl Cov.nil)) HE.nil rfl fun i γ1 hi => ?_
 try dsimp only [List.cons_append, List.nil_append]
 refine x5x fun K2 hK2 => ?_
 refine x4x x6x (by rfl) ?_
 refine x1x rfl ?_
 refine x1x rfl ?_
 refine u0u rfl w4w rfl ?_
 refine y1y rfl rfl rfl ?_
 refine x8x rfl (fun hc3 => ?_) (fun hc3 => ?_)
 rotate_left
 ·try simp at hc3
  obtain rfl : i = l.length := by omega
  refine v0v ?_
  refine hK1 _ _ ?_
  clear hK2 K2 hK1 K1
  refine x4x x6x (by rfl) ?_
  refine x1x rfl ?_
  refine x2x rfl ?_
  refine y0y ⟨.inr rfl, ?_⟩
  refine y8y rfl ?_ rfl
  rw [List.take_length]
 try simp at hc3
 obtain ⟨p, hp⟩ : ∃ p, l[i]? = some p := ⟨_, List.getElem?_eq_getElem (by omega)⟩
 have hmk := a3q zLa kLa (k := k) hp
 have hat := a1z zLa hp
 have hzp : zLa p = 4 + szs zPa p.done := rfl
 obtain ⟨q, hq⟩ : ∃ q, q = k + szs zLa (l.take i) := ⟨_, rfl⟩
 rw [← hq] at hmk ⊢
 refine x9x ?_
 refine hK2 _ _ ?_
 clear hK2 K2
 refine x5x fun K4 hK4 => ?_
 refine y7y ?_
 refine x5x fun K5 hK5 => ?_
 refine x4x x6x (by rfl) ?_
 refine x1x rfl ?_
 refine x1x rfl ?_
 refine z7z rfl rfl w4w rfl v4v rfl (by assumption) ?_
 refine x0x rfl v4v rfl rfl y6y rfl rfl ?_
 refine z4z rfl y6y rfl ?_
 refine x1x rfl ?_
 refine y1y rfl rfl rfl ?_
 refine x8x rfl (fun hc6 => ?_) (fun hc6 => ?_)
 ·(simp [kI, kEv, kOu, kPa, kLa, kVi, mEv, mOu, mSt] at hc6; done)
 try simp at hc6
 refine x9x ?_
 refine hK5 _ _ ?_
 clear hK5 K5
 refine x4x x6x (by rfl) ?_
 refine x1x rfl ?_
 refine z9z (b := 1) rfl rfl (by omega) ?_
 refine x2x rfl ?_
 refine x5x fun K7 hK7 => ?_
 refine x4x x6x (by rfl) ?_
 refine x1x rfl ?_
 refine x1x rfl ?_
 refine z7z rfl rfl w4w rfl v4v rfl (by assumption) ?_
 refine x0x rfl v4v rfl rfl q5q rfl rfl ?_
 refine x0x rfl q5q rfl rfl y6y rfl rfl ?_
 refine z4z rfl y6y rfl ?_
 refine x1x rfl ?_
 refine y1y rfl rfl rfl ?_
 refine x8x rfl (fun hc8 => ?_) (fun hc8 => ?_)
 ·(simp [kI, kEv, kOu, kPa, kLa, kVi, mEv, mOu, mSt] at hc8; done)
 try simp at hc8
 refine x9x ?_
 refine hK7 _ _ ?_
 clear hK7 K7
 refine x4x x6x (by rfl) ?_
 refine x1x rfl ?_
 refine z9z (b := 1) rfl rfl (by omega) ?_
 refine x2x rfl ?_
 refine x5x fun K9 hK9 => ?_
 refine x4x x6x (by rfl) ?_
 refine x1x rfl ?_
 refine x1x rfl ?_
 refine z7z rfl rfl w4w rfl v4v rfl (by assumption) ?_
 refine x0x rfl v4v rfl rfl q5q rfl rfl ?_
 refine x0x rfl q5q rfl rfl y6y rfl rfl ?_
 refine z4z rfl y6y rfl ?_
 refine x1x rfl ?_
 refine y1y rfl rfl rfl ?_
 refine x8x rfl (fun hc10 => ?_) (fun hc10 => ?_)
 ·(simp [kI, kEv, kOu, kPa, kLa, kVi, mEv, mOu, mSt] at hc10; done)
 try simp at hc10
 refine x9x ?_
 refine hK9 _ _ ?_
 clear hK9 K9
 refine x4x x6x (by rfl) ?_
 refine x1x rfl ?_
 refine z9z (b := 1) rfl rfl (by omega) ?_
 refine x2x rfl ?_
 refine x5x fun K11 hK11 => ?_
 refine x4x x6x (by rfl) ?_
 refine x1x rfl ?_
 refine x1x rfl ?_
 refine z7z rfl rfl w4w rfl v4v rfl (by assumption) ?_
 refine x0x rfl v4v rfl rfl q5q rfl rfl ?_
 refine x0x rfl q5q rfl rfl y6y rfl rfl ?_
 refine z4z rfl y6y rfl ?_
 refine x1x rfl ?_
 refine y1y rfl rfl rfl ?_
 refine x8x rfl (fun hc12 => ?_) (fun hc12 => ?_)
 ·(simp [kI, kEv, kOu, kPa, kLa, kVi, mEv, mOu, mSt] at hc12; done)
 try simp at hc12
 refine x9x ?_
 refine hK11 _ _ ?_
 clear hK11 K11
 refine x4x x6x (by rfl) ?_
 refine x1x rfl ?_
 refine z9z (b := 1) rfl rfl (by omega) ?_
 refine x2x rfl ?_
 refine x4x x6x (by rfl) ?_
 refine x1x rfl ?_
 refine x1x rfl ?_
 refine z7z rfl rfl w4w rfl v4v rfl (by assumption) ?_
 refine x0x rfl v4v rfl rfl v9v rfl rfl ?_
 refine z4z rfl v9v rfl ?_
 refine x1x rfl ?_
 refine y9y rfl rfl rfl (b3e c p.done (q + 4) (by omega)) ?_
 refine x2x rfl ?_
 refine x4x x6x (by rfl) ?_
 refine x1x rfl ?_
 refine y1y rfl rfl rfl ?_
 refine x8x rfl (fun hc13 => ?_) (fun hc13 => ?_)
 ·(simp [kI, kEv, kOu, kPa, kLa, kVi, mEv, mOu, mSt] at hc13; omega)
 try simp at hc13
 refine x9x ?_
 refine hK4 _ _ ?_
 clear hK4 K4
 refine y3y x6x (by rfl) ?_
 refine x1x rfl ?_
 refine z9z (b := 1) rfl rfl (by omega) ?_
 refine x2x rfl ?_
 exact ⟨i + 1, ⟨by omega, by omega⟩, [], (Cov.cons' (t := 1) rfl (by rw [s3s zLa hp]; exact congrArg (fun v : Nat => AV.pv (.int .i64 (v : Int))) (by omega)) (Cov.cons (t := 5) rfl Cov.nil)), (Cov.cons (t := 0) rfl Cov.nil), HE.nil, HE.nil, rfl⟩
theorem b3g (c : Bool) (l : List Vi) (k : Nat) (hk : k + szs zVi l ≤ 1000000000) : s8s Tryz.prog 93 [b9v c (mks zVi kVi k l), .pv (.int .i64 (k : Int))] (.pv (.int .i64 ((k + szs zVi l : Nat) : Int))) := by
 refine z1z x6x (fn := Tryz.f93) (by kernel_rfl) (by kernel_rfl) rfl (outs := [.pv (.int .i64 ((k + szs zVi l : Nat) : Int))]) (by rfl) (Nat.le_of_ble_eq_true rfl) 0 ?_
 have hml := a3o zVi kVi k l
 have hll := a3p zVi (fun p => by unfold zVi; omega) l
 refine x4x x6x (by rfl) ?_
 refine x2x rfl ?_
 refine x5x fun K1 hK1 => ?_
 refine x4x x6x (by rfl) ?_
 refine x2x rfl ?_
 refine y7y ?_
 refine u5u (ι := Nat) (fun i γ1 => [(1, .pv (.int .i64 ((k + szs zVi (l.take i) : Nat) : Int))), (5, .pv (.int .i64 (i : Int)))]) (fun i γ1 => []) (fun i => i ≤ l.length) (fun i => l.length - i) (Cov.cons (t := 0) rfl Cov.nil) HE.nil 0 (by omega) [] (Cov.cons' (t := 1) rfl (by rw [List.take_zero]; rfl) (Cov.cons (t := 5) rfl Cov.nil)) HE.nil rfl fun i γ1 hi => ?_
 try dsimp only [List.cons_append, List.nil_append]
 refine x5x fun K2 hK2 => ?_
 refine x4x x6x (by rfl) ?_
 refine x1x rfl ?_
 refine x1x rfl ?_
 refine u0u rfl p1p rfl ?_
 refine y1y rfl rfl rfl ?_
 refine x8x rfl (fun hc3 => ?_) (fun hc3 => ?_)
 rotate_left
 ·try simp at hc3
  obtain rfl : i = l.length := by omega
  refine v0v ?_
  refine hK1 _ _ ?_
  clear hK2 K2 hK1 K1
  refine x4x x6x (by rfl) ?_
  refine x1x rfl ?_
  refine x2x rfl ?_
  refine y0y ⟨.inr rfl, ?_⟩
  refine y8y rfl ?_ rfl
  rw [List.take_length]
 try simp at hc3
 obtain ⟨p, hp⟩ : ∃ p, l[i]? = some p := ⟨_, List.getElem?_eq_getElem (by omega)⟩
 have hmk := a3q zVi kVi (k := k) hp
 have hat := a1z zVi hp
 have hzp : zVi p = 2 + szs zEv p.events := rfl
 obtain ⟨q, hq⟩ : ∃ q, q = k + szs zVi (l.take i) := ⟨_, rfl⟩
 rw [← hq] at hmk ⊢
 refine x9x ?_
 refine hK2 _ _ ?_
 clear hK2 K2
 refine x5x fun K4 hK4 => ?_
 refine y7y ?_
 refine x5x fun K5 hK5 => ?_
 refine x4x x6x (by rfl) ?_
 refine x1x rfl ?_
 refine x1x rfl ?_
 refine z7z rfl rfl p1p rfl w0w rfl (by assumption) ?_
 refine x0x rfl w0w rfl rfl y6y rfl rfl ?_
 refine z4z rfl y6y rfl ?_
 refine x1x rfl ?_
 refine y1y rfl rfl rfl ?_
 refine x8x rfl (fun hc6 => ?_) (fun hc6 => ?_)
 ·(simp [kI, kEv, kOu, kPa, kLa, kVi, mEv, mOu, mSt] at hc6; done)
 try simp at hc6
 refine x9x ?_
 refine hK5 _ _ ?_
 clear hK5 K5
 refine x4x x6x (by rfl) ?_
 refine x1x rfl ?_
 refine z9z (b := 1) rfl rfl (by omega) ?_
 refine x2x rfl ?_
 refine x5x fun K7 hK7 => ?_
 refine x4x x6x (by rfl) ?_
 refine x1x rfl ?_
 refine x1x rfl ?_
 refine z7z rfl rfl p1p rfl w0w rfl (by assumption) ?_
 refine x0x rfl w0w rfl rfl y6y rfl rfl ?_
 refine z4z rfl y6y rfl ?_
 refine x1x rfl ?_
 refine y1y rfl rfl rfl ?_
 refine x8x rfl (fun hc8 => ?_) (fun hc8 => ?_)
 ·(simp [kI, kEv, kOu, kPa, kLa, kVi, mEv, mOu, mSt] at hc8; done)
 try simp at hc8
 refine x9x ?_
 refine hK7 _ _ ?_
 clear hK7 K7
 refine x4x x6x (by rfl) ?_
 refine x1x rfl ?_
 refine z9z (b := 1) rfl rfl (by omega) ?_
 refine x2x rfl ?_
 refine x4x x6x (by rfl) ?_
 refine x1x rfl ?_
 refine x1x rfl ?_
 refine z7z rfl rfl p1p rfl w0w rfl (by assumption) ?_
 refine x0x rfl w0w rfl rfl u7u rfl rfl ?_
 refine z4z rfl u7u rfl ?_
 refine x1x rfl ?_
 refine y9y rfl rfl rfl (a1s c p.events (q + 2) (by omega)) ?_
 refine x2x rfl ?_
 refine x4x x6x (by rfl) ?_
 refine x1x rfl ?_
 refine y1y rfl rfl rfl ?_
 refine x8x rfl (fun hc9 => ?_) (fun hc9 => ?_)
 ·(simp [kI, kEv, kOu, kPa, kLa, kVi, mEv, mOu, mSt] at hc9; omega)
 try simp at hc9
 refine x9x ?_
 refine hK4 _ _ ?_
 clear hK4 K4
 refine y3y x6x (by rfl) ?_
 refine x1x rfl ?_
 refine z9z (b := 1) rfl rfl (by omega) ?_
 refine x2x rfl ?_
 exact ⟨i + 1, ⟨by omega, by omega⟩, [], (Cov.cons' (t := 1) rfl (by rw [s3s zVi hp]; exact congrArg (fun v : Nat => AV.pv (.int .i64 (v : Int))) (by omega)) (Cov.cons (t := 5) rfl Cov.nil)), (Cov.cons (t := 0) rfl Cov.nil), HE.nil, HE.nil, rfl⟩
theorem a8h (c : Bool) (n : Nd) (k : Nat) (hk : k + zNd n ≤ 1000000000) : s8s Tryz.prog 22 [.agg (a0t c (kNd k n)), .pv (.int .i64 (k : Int))] (.pv (.int .i64 ((k + zNd n : Nat) : Int))) := by
 refine z1z x6x (fn := Tryz.f22) (by kernel_rfl) (by kernel_rfl) rfl (outs := [.pv (.int .i64 ((k + zNd n : Nat) : Int))]) (by rfl) (Nat.le_of_ble_eq_true rfl) 1 ?_
 have hz : zNd n = szs zLa n.lanes + szs zEv n.kept + szs zOu n.outs + szs zVi n.views + szs zI n.known := rfl
 refine x4x x6x (by rfl) ?_
 refine v1v (id := 0) rfl rfl rfl ?_
 refine x2x rfl ?_
 refine x4x x6x (by rfl) ?_
 refine x0x rfl z8z rfl rfl w4w rfl rfl ?_
 refine x3x rfl w4w rfl rfl ?_
 refine x1x rfl ?_
 refine y9y rfl rfl rfl (b3f c n.lanes k (by omega)) ?_
 refine x2x rfl ?_
 refine x5x fun K1 hK1 => ?_
 refine x4x x6x (by rfl) ?_
 refine x1x rfl ?_
 refine y1y rfl rfl rfl ?_
 refine x8x rfl (fun hc2 => ?_) (fun hc2 => ?_)
 ·(simp [kI, kEv, kOu, kPa, kLa, kVi, mEv, mOu, mSt] at hc2; omega)
 try simp at hc2
 refine x9x ?_
 refine hK1 _ _ ?_
 clear hK1 K1
 refine x4x x6x (by rfl) ?_
 refine x0x rfl z8z rfl rfl u7u rfl rfl ?_
 refine x3x rfl u7u rfl rfl ?_
 refine x1x rfl ?_
 refine y9y rfl rfl rfl (a1s c n.kept (k + szs zLa n.lanes) (by omega)) ?_
 refine x2x rfl ?_
 refine x5x fun K3 hK3 => ?_
 refine x4x x6x (by rfl) ?_
 refine x1x rfl ?_
 refine y1y rfl rfl rfl ?_
 refine x8x rfl (fun hc4 => ?_) (fun hc4 => ?_)
 ·(simp [kI, kEv, kOu, kPa, kLa, kVi, mEv, mOu, mSt] at hc4; omega)
 try simp at hc4
 refine x9x ?_
 refine hK3 _ _ ?_
 clear hK3 K3
 refine x4x x6x (by rfl) ?_
 refine x0x rfl z8z rfl rfl w6w rfl rfl ?_
 refine x3x rfl w6w rfl rfl ?_
 refine x1x rfl ?_
 refine y9y rfl rfl rfl (a4w c n.outs (k + szs zLa n.lanes + szs zEv n.kept) (by omega)) ?_
 refine x2x rfl ?_
 refine x5x fun K5 hK5 => ?_
 refine x4x x6x (by rfl) ?_
 refine x1x rfl ?_
 refine y1y rfl rfl rfl ?_
 refine x8x rfl (fun hc6 => ?_) (fun hc6 => ?_)
 ·(simp [kI, kEv, kOu, kPa, kLa, kVi, mEv, mOu, mSt] at hc6; omega)
 try simp at hc6
 refine x9x ?_
 refine hK5 _ _ ?_
 clear hK5 K5
 refine x4x x6x (by rfl) ?_
 refine x0x rfl z8z rfl rfl p1p rfl rfl ?_
 refine x3x rfl p1p rfl rfl ?_
 refine x1x rfl ?_
 refine y9y rfl rfl rfl (b3g c n.views (k + szs zLa n.lanes + szs zEv n.kept + szs zOu n.outs) (by omega)) ?_
 refine x2x rfl ?_
 refine x5x fun K7 hK7 => ?_
 refine x4x x6x (by rfl) ?_
 refine x1x rfl ?_
 refine y1y rfl rfl rfl ?_
 refine x8x rfl (fun hc8 => ?_) (fun hc8 => ?_)
 ·(simp [kI, kEv, kOu, kPa, kLa, kVi, mEv, mOu, mSt] at hc8; omega)
 try simp at hc8
 refine x9x ?_
 refine hK7 _ _ ?_
 clear hK7 K7
 refine x4x x6x (by rfl) ?_
 refine x0x rfl z8z rfl rfl v7v rfl rfl ?_
 refine x3x rfl v7v rfl rfl ?_
 refine x1x rfl ?_
 refine y9y rfl rfl rfl (a4v c n.known (k + szs zLa n.lanes + szs zEv n.kept + szs zOu n.outs + szs zVi n.views) (by omega)) ?_
 refine x2x rfl ?_
 refine x5x fun K9 hK9 => ?_
 refine x4x x6x (by rfl) ?_
 refine x1x rfl ?_
 refine y1y rfl rfl rfl ?_
 refine x8x rfl (fun hc10 => ?_) (fun hc10 => ?_)
 ·(simp [kI, kEv, kOu, kPa, kLa, kVi, mEv, mOu, mSt] at hc10; omega)
 try simp at hc10
 refine x9x ?_
 refine hK9 _ _ ?_
 clear hK9 K9
 refine x4x x6x (by rfl) ?_
 refine x1x rfl ?_
 refine x2x rfl ?_
 refine y0y ⟨.inr rfl, ?_⟩
 refine y8y rfl ?_ rfl
 exact congrArg (fun v : Nat => [AV.pv (.int .i64 (v : Int))]) (by omega)
end
section
theorem b9c (c : Bool) (l : List Int) (left : Nat) (hl : left ≤ 1048576) : s8s Tryz.prog 98 [a3s c l, .pv (.int .i64 (left : Int))] (.pv (.int .i64 (lf left l.length))) := by
 refine z1z x6x (fn := Tryz.f98) (by kernel_rfl) (by kernel_rfl) rfl (outs := [.pv (.int .i64 (lf left l.length))]) (by rfl) (Nat.le_of_ble_eq_true rfl) 0 ?_
 refine w7w 0 rfl fun hlen => ?_
 refine x4x x6x (by rfl) ?_
 refine x2x rfl ?_
 refine x4x x6x (by rfl) ?_
 refine x1x rfl ?_
 refine x1x rfl ?_
 refine u0u rfl v7v rfl ?_
 refine a1j (.int .i64 ((left : Int) - (l.length : Int))) rfl rfl rfl (a7z rfl rfl (by omega) (by omega)) ?_
 refine x2x rfl ?_
 refine x5x fun K1 hK1 => ?_
 refine x4x x6x (by rfl) ?_
 refine x1x rfl ?_
 refine y1y rfl rfl rfl ?_
 refine x8x rfl (fun hc2 => ?_) (fun hc2 => ?_)
 ·try simp at hc2
  refine x4x x6x (by rfl) ?_
  refine x2x rfl ?_
  refine y0y ⟨.inr rfl, ?_⟩
  clear hK1 K1
  refine y8y rfl ?_ rfl
  exact congrArg (fun v : Int => [AV.pv (.int .i64 v)]) (a2m (by omega)).symm
 try simp at hc2
 refine x9x ?_
 refine hK1 _ _ ?_
 clear hK1 K1
 refine x4x x6x (by rfl) ?_
 refine x1x rfl ?_
 refine x2x rfl ?_
 refine y0y ⟨.inr rfl, ?_⟩
 refine y8y rfl ?_ rfl
 exact congrArg (fun v : Int => [AV.pv (.int .i64 v)]) ((a1k (by omega)).trans (by omega)).symm
theorem a4x (c : Bool) (l : List Ev) (left : Nat) (hl : left ≤ 1048576) : s8s Tryz.prog 51 [a1n c l, .pv (.int .i64 (left : Int))] (.pv (.int .i64 (lf left l.length))) := by
 refine z1z x6x (fn := Tryz.f51) (by kernel_rfl) (by kernel_rfl) rfl (outs := [.pv (.int .i64 (lf left l.length))]) (by rfl) (Nat.le_of_ble_eq_true rfl) 0 ?_
 refine w7w 0 rfl fun hlen => ?_
 refine x4x x6x (by rfl) ?_
 refine x2x rfl ?_
 refine x4x x6x (by rfl) ?_
 refine x1x rfl ?_
 refine x1x rfl ?_
 refine u0u rfl a7b rfl ?_
 refine a1j (.int .i64 ((left : Int) - (l.length : Int))) rfl rfl rfl (a7z rfl rfl (by omega) (by omega)) ?_
 refine x2x rfl ?_
 refine x5x fun K1 hK1 => ?_
 refine x4x x6x (by rfl) ?_
 refine x1x rfl ?_
 refine y1y rfl rfl rfl ?_
 refine x8x rfl (fun hc2 => ?_) (fun hc2 => ?_)
 ·try simp at hc2
  refine x4x x6x (by rfl) ?_
  refine x2x rfl ?_
  refine y0y ⟨.inr rfl, ?_⟩
  clear hK1 K1
  refine y8y rfl ?_ rfl
  exact congrArg (fun v : Int => [AV.pv (.int .i64 v)]) (a2m (by omega)).symm
 try simp at hc2
 refine x9x ?_
 refine hK1 _ _ ?_
 clear hK1 K1
 refine x4x x6x (by rfl) ?_
 refine x1x rfl ?_
 refine x2x rfl ?_
 refine y0y ⟨.inr rfl, ?_⟩
 refine y8y rfl ?_ rfl
 exact congrArg (fun v : Int => [AV.pv (.int .i64 v)]) ((a1k (by omega)).trans (by omega)).symm
theorem b1m (c : Bool) (l : List Ou) (left : Nat) (hl : left ≤ 1048576) : s8s Tryz.prog 96 [a3k c l, .pv (.int .i64 (left : Int))] (.pv (.int .i64 (lf left l.length))) := by
 refine z1z x6x (fn := Tryz.f96) (by kernel_rfl) (by kernel_rfl) rfl (outs := [.pv (.int .i64 (lf left l.length))]) (by rfl) (Nat.le_of_ble_eq_true rfl) 0 ?_
 refine w7w 0 rfl fun hlen => ?_
 refine x4x x6x (by rfl) ?_
 refine x2x rfl ?_
 refine x4x x6x (by rfl) ?_
 refine x1x rfl ?_
 refine x1x rfl ?_
 refine u0u rfl b0q rfl ?_
 refine a1j (.int .i64 ((left : Int) - (l.length : Int))) rfl rfl rfl (a7z rfl rfl (by omega) (by omega)) ?_
 refine x2x rfl ?_
 refine x5x fun K1 hK1 => ?_
 refine x4x x6x (by rfl) ?_
 refine x1x rfl ?_
 refine y1y rfl rfl rfl ?_
 refine x8x rfl (fun hc2 => ?_) (fun hc2 => ?_)
 ·try simp at hc2
  refine x4x x6x (by rfl) ?_
  refine x2x rfl ?_
  refine y0y ⟨.inr rfl, ?_⟩
  clear hK1 K1
  refine y8y rfl ?_ rfl
  exact congrArg (fun v : Int => [AV.pv (.int .i64 v)]) (a2m (by omega)).symm
 try simp at hc2
 refine x9x ?_
 refine hK1 _ _ ?_
 clear hK1 K1
 refine x4x x6x (by rfl) ?_
 refine x1x rfl ?_
 refine x2x rfl ?_
 refine y0y ⟨.inr rfl, ?_⟩
 refine y8y rfl ?_ rfl
 exact congrArg (fun v : Int => [AV.pv (.int .i64 v)]) ((a1k (by omega)).trans (by omega)).symm
theorem b9d (c : Bool) (p : Pa) (left : Nat) (hl : left ≤ 1048576) : s8s Tryz.prog 252 [.agg (a2c c p), .pv (.int .i64 (left : Int))] (.pv (.int .i64 (lf left (cPa p)))) := by
 refine z1z x6x (fn := Tryz.f252) (by kernel_rfl) (by kernel_rfl) rfl (outs := [.pv (.int .i64 (lf left (cPa p)))]) (by rfl) (Nat.le_of_ble_eq_true rfl) 1 ?_
 have hc : cPa p = p.sends.length + p.outs.length := rfl
 refine x4x x6x (by rfl) ?_
 refine v1v (id := 0) rfl rfl rfl ?_
 refine x2x rfl ?_
 refine x4x x6x (by rfl) ?_
 refine x0x rfl a7j rfl rfl a7b rfl rfl ?_
 refine x3x rfl a7b rfl rfl ?_
 refine x1x rfl ?_
 refine y9y rfl rfl rfl (a4x c p.sends left hl) ?_
 refine x2x rfl ?_
 refine x5x fun K1 hK1 => ?_
 refine x4x x6x (by rfl) ?_
 refine x1x rfl ?_
 refine y1y rfl rfl rfl ?_
 refine x8x rfl (fun hc2 => ?_) (fun hc2 => ?_)
 ·try simp at hc2
  have hT := b2z hc2
  refine x4x x6x (by rfl) ?_
  refine x2x rfl ?_
  refine y0y ⟨.inr rfl, ?_⟩
  clear hK1 K1
  refine y8y rfl ?_ rfl
  exact congrArg (fun v : Int => [AV.pv (.int .i64 v)]) (a2m (by omega)).symm
 try simp at hc2
 have h10 : p.sends.length ≤ left := b2g (by omega)
 rw [a1k h10]
 refine x9x ?_
 refine hK1 _ _ ?_
 clear hK1 K1
 refine x4x x6x (by rfl) ?_
 refine x0x rfl a7j rfl rfl b0q rfl rfl ?_
 refine x3x rfl b0q rfl rfl ?_
 refine x1x rfl ?_
 refine y9y rfl rfl rfl (b1m c p.outs (left - p.sends.length) (by omega)) ?_
 refine x2x rfl ?_
 refine x5x fun K3 hK3 => ?_
 refine x4x x6x (by rfl) ?_
 refine x1x rfl ?_
 refine y1y rfl rfl rfl ?_
 refine x8x rfl (fun hc4 => ?_) (fun hc4 => ?_)
 ·try simp at hc4
  have hT := b2z hc4
  refine x4x x6x (by rfl) ?_
  refine x2x rfl ?_
  refine y0y ⟨.inr rfl, ?_⟩
  clear hK3 K3
  refine y8y rfl ?_ rfl
  exact congrArg (fun v : Int => [AV.pv (.int .i64 v)]) (a2m (by omega)).symm
 try simp at hc4
 have h16 : p.outs.length ≤ (left - p.sends.length) := b2g (by omega)
 rw [a1k h16]
 refine x9x ?_
 refine hK3 _ _ ?_
 clear hK3 K3
 refine x4x x6x (by rfl) ?_
 refine x1x rfl ?_
 refine x2x rfl ?_
 refine y0y ⟨.inr rfl, ?_⟩
 refine y8y rfl ?_ rfl
 exact congrArg (fun v : Int => [AV.pv (.int .i64 v)]) ((a1k (by omega)).trans (by omega)).symm
theorem b6k (c : Bool) (l : List Pa) (left : Nat) (hl : left ≤ 1048576) : s8s Tryz.prog 226 [a7l c l, .pv (.int .i64 (left : Int))] (.pv (.int .i64 (lf left (b8t l)))) := by
 refine z1z x6x (fn := Tryz.f226) (by kernel_rfl) (by kernel_rfl) rfl (outs := [.pv (.int .i64 (lf left (b8t l)))]) (by rfl) (Nat.le_of_ble_eq_true rfl) 0 ?_
 refine w7w 0 rfl fun hlen => ?_
 have hc : b8t l = l.length + szs cPa l := rfl
 refine x4x x6x (by rfl) ?_
 refine x2x rfl ?_
 refine x4x x6x (by rfl) ?_
 refine x1x rfl ?_
 refine x1x rfl ?_
 refine u0u rfl a7x rfl ?_
 refine a1j (.int .i64 ((left : Int) - (l.length : Int))) rfl rfl rfl (a7z rfl rfl (by omega) (by omega)) ?_
 refine x2x rfl ?_
 refine x5x fun K1 hK1 => ?_
 refine x4x x6x (by rfl) ?_
 refine x1x rfl ?_
 refine y1y rfl rfl rfl ?_
 refine x8x rfl (fun hc2 => ?_) (fun hc2 => ?_)
 ·try simp at hc2
  refine x4x x6x (by rfl) ?_
  refine x2x rfl ?_
  refine y0y ⟨.inr rfl, ?_⟩
  clear hK1 K1
  refine y8y rfl ?_ rfl
  exact congrArg (fun v : Int => [AV.pv (.int .i64 v)]) (a2m (by omega)).symm
 try simp at hc2
 refine x9x ?_
 refine hK1 _ _ ?_
 clear hK1 K1
 refine x5x fun K3 hK3 => ?_
 refine x4x x6x (by rfl) ?_
 refine x2x rfl ?_
 refine y7y ?_
 refine u5u (ι := Nat) (fun i γ1 => [(1, .pv (.int .i64 ((left - (l.length + szs cPa (l.take i)) : Nat) : Int))), (5, .pv (.int .i64 (i : Int)))]) (fun i γ1 => []) (fun i => i ≤ l.length ∧ l.length + szs cPa (l.take i) ≤ left) (fun i => l.length - i) (Cov.cons (t := 0) rfl Cov.nil) HE.nil 0 ⟨by omega, by rw [List.take_zero]; show l.length + 0 ≤ left; omega⟩ [] (Cov.cons' (t := 1) rfl (by rw [List.take_zero]; exact congrArg (fun v : Int => AV.pv (.int .i64 v)) (by show _ = ((left - (l.length + 0) : Nat) : Int); omega)) (Cov.cons (t := 5) rfl Cov.nil)) HE.nil rfl fun i γ1 hi => ?_
 try dsimp only [List.cons_append, List.nil_append]
 obtain ⟨h1, h2⟩ := hi
 refine x5x fun K4 hK4 => ?_
 refine x4x x6x (by rfl) ?_
 refine x1x rfl ?_
 refine x1x rfl ?_
 refine u0u rfl a7x rfl ?_
 refine y1y rfl rfl rfl ?_
 refine x8x rfl (fun hc5 => ?_) (fun hc5 => ?_)
 rotate_left
 ·try simp at hc5
  obtain rfl : i = l.length := by omega
  rw [List.take_length] at h2 ⊢
  refine v0v ?_
  refine hK3 _ _ ?_
  clear hK4 K4 hK3 K3
  refine x4x x6x (by rfl) ?_
  refine x1x rfl ?_
  refine x2x rfl ?_
  refine y0y ⟨.inr rfl, ?_⟩
  refine y8y rfl ?_ rfl
  exact congrArg (fun v : Int => [AV.pv (.int .i64 v)]) ((a1k (by omega)).trans (by omega)).symm
 try simp at hc5
 obtain ⟨p, hp⟩ : ∃ p, l[i]? = some p := ⟨_, List.getElem?_eq_getElem (by omega)⟩
 have hat := a1z cPa hp
 refine x9x ?_
 refine hK4 _ _ ?_
 clear hK4 K4
 refine x5x fun K6 hK6 => ?_
 refine y7y ?_
 refine x4x x6x (by rfl) ?_
 refine x1x rfl ?_
 refine x1x rfl ?_
 refine z7z rfl rfl a7x rfl a7j rfl (by assumption) ?_
 refine z6z rfl a7j rfl rfl ?_
 refine x1x rfl ?_
 refine y9y rfl rfl rfl (b9d c p (left - (l.length + szs cPa (l.take i))) (by omega)) ?_
 refine x2x rfl ?_
 refine x4x x6x (by rfl) ?_
 refine x1x rfl ?_
 refine y1y rfl rfl rfl ?_
 refine x8x rfl (fun hc7 => ?_) (fun hc7 => ?_)
 ·try simp at hc7
  have hT := b2z hc7
  refine x4x x6x (by rfl) ?_
  refine x2x rfl ?_
  refine y0y ⟨.inr rfl, ?_⟩
  clear hK6 K6 hK3 K3
  refine y8y rfl ?_ rfl
  exact congrArg (fun v : Int => [AV.pv (.int .i64 v)]) (a2m (by omega)).symm
 try simp at hc7
 have h25 : cPa p ≤ left - (l.length + szs cPa (l.take i)) := b2g (by omega)
 rw [a1k h25]
 refine x9x ?_
 refine hK6 _ _ ?_
 clear hK6 K6
 refine y3y x6x (by rfl) ?_
 refine x1x rfl ?_
 refine y1y rfl rfl rfl ?_
 refine x2x rfl ?_
 exact ⟨i + 1, ⟨⟨by omega, by rw [s3s cPa hp]; omega⟩, by omega⟩, [], (Cov.cons' (t := 1) rfl (by rw [s3s cPa hp]; exact congrArg (fun v : Nat => AV.pv (.int .i64 (v : Int))) (by omega)) (Cov.cons' (t := 5) rfl (by rw [v3v (by omega) (by omega)]; rfl) Cov.nil)), (Cov.cons (t := 0) rfl Cov.nil), HE.nil, HE.nil, rfl⟩
theorem b9e (c : Bool) (p : La) (left : Nat) (hl : left ≤ 1048576) : s8s Tryz.prog 181 [.agg (a1q c p), .pv (.int .i64 (left : Int))] (.pv (.int .i64 (lf left (cLa p)))) := by
 refine z1z x6x (fn := Tryz.f181) (by kernel_rfl) (by kernel_rfl) rfl (outs := [.pv (.int .i64 (lf left (cLa p)))]) (by rfl) (Nat.le_of_ble_eq_true rfl) 1 ?_
 have hc : cLa p = b8t p.done := rfl
 refine x4x x6x (by rfl) ?_
 refine v1v (id := 0) rfl rfl rfl ?_
 refine x2x rfl ?_
 refine x4x x6x (by rfl) ?_
 refine x0x rfl a9b rfl rfl a7x rfl rfl ?_
 refine x3x rfl a7x rfl rfl ?_
 refine x1x rfl ?_
 refine y9y rfl rfl rfl (b6k c p.done left hl) ?_
 refine x2x rfl ?_
 refine x5x fun K1 hK1 => ?_
 refine x4x x6x (by rfl) ?_
 refine x1x rfl ?_
 refine y1y rfl rfl rfl ?_
 refine x8x rfl (fun hc2 => ?_) (fun hc2 => ?_)
 ·try simp at hc2
  have hT := b2z hc2
  refine x4x x6x (by rfl) ?_
  refine x2x rfl ?_
  refine y0y ⟨.inr rfl, ?_⟩
  clear hK1 K1
  refine y8y rfl ?_ rfl
  exact congrArg (fun v : Int => [AV.pv (.int .i64 v)]) (a2m (by omega)).symm
 try simp at hc2
 have h10 : b8t p.done ≤ left := b2g (by omega)
 rw [a1k h10]
 refine x9x ?_
 refine hK1 _ _ ?_
 clear hK1 K1
 refine x4x x6x (by rfl) ?_
 refine x1x rfl ?_
 refine x2x rfl ?_
 refine y0y ⟨.inr rfl, ?_⟩
 refine y8y rfl ?_ rfl
 exact congrArg (fun v : Int => [AV.pv (.int .i64 v)]) ((a1k (by omega)).trans (by omega)).symm
theorem b6l (c : Bool) (l : List La) (left : Nat) (hl : left ≤ 1048576) : s8s Tryz.prog 95 [b9u c l, .pv (.int .i64 (left : Int))] (.pv (.int .i64 (lf left (b2w l)))) := by
 refine z1z x6x (fn := Tryz.f95) (by kernel_rfl) (by kernel_rfl) rfl (outs := [.pv (.int .i64 (lf left (b2w l)))]) (by rfl) (Nat.le_of_ble_eq_true rfl) 0 ?_
 refine w7w 0 rfl fun hlen => ?_
 have hc : b2w l = l.length + szs cLa l := rfl
 refine x4x x6x (by rfl) ?_
 refine x2x rfl ?_
 refine x4x x6x (by rfl) ?_
 refine x1x rfl ?_
 refine x1x rfl ?_
 refine u0u rfl b4j rfl ?_
 refine a1j (.int .i64 ((left : Int) - (l.length : Int))) rfl rfl rfl (a7z rfl rfl (by omega) (by omega)) ?_
 refine x2x rfl ?_
 refine x5x fun K1 hK1 => ?_
 refine x4x x6x (by rfl) ?_
 refine x1x rfl ?_
 refine y1y rfl rfl rfl ?_
 refine x8x rfl (fun hc2 => ?_) (fun hc2 => ?_)
 ·try simp at hc2
  refine x4x x6x (by rfl) ?_
  refine x2x rfl ?_
  refine y0y ⟨.inr rfl, ?_⟩
  clear hK1 K1
  refine y8y rfl ?_ rfl
  exact congrArg (fun v : Int => [AV.pv (.int .i64 v)]) (a2m (by omega)).symm
 try simp at hc2
 refine x9x ?_
 refine hK1 _ _ ?_
 clear hK1 K1
 refine x5x fun K3 hK3 => ?_
 refine x4x x6x (by rfl) ?_
 refine x2x rfl ?_
 refine y7y ?_
 refine u5u (ι := Nat) (fun i γ1 => [(1, .pv (.int .i64 ((left - (l.length + szs cLa (l.take i)) : Nat) : Int))), (5, .pv (.int .i64 (i : Int)))]) (fun i γ1 => []) (fun i => i ≤ l.length ∧ l.length + szs cLa (l.take i) ≤ left) (fun i => l.length - i) (Cov.cons (t := 0) rfl Cov.nil) HE.nil 0 ⟨by omega, by rw [List.take_zero]; show l.length + 0 ≤ left; omega⟩ [] (Cov.cons' (t := 1) rfl (by rw [List.take_zero]; exact congrArg (fun v : Int => AV.pv (.int .i64 v)) (by show _ = ((left - (l.length + 0) : Nat) : Int); omega)) (Cov.cons (t := 5) rfl Cov.nil)) HE.nil rfl fun i γ1 hi => ?_
 try dsimp only [List.cons_append, List.nil_append]
 obtain ⟨h1, h2⟩ := hi
 refine x5x fun K4 hK4 => ?_
 refine x4x x6x (by rfl) ?_
 refine x1x rfl ?_
 refine x1x rfl ?_
 refine u0u rfl b4j rfl ?_
 refine y1y rfl rfl rfl ?_
 refine x8x rfl (fun hc5 => ?_) (fun hc5 => ?_)
 rotate_left
 ·try simp at hc5
  obtain rfl : i = l.length := by omega
  rw [List.take_length] at h2 ⊢
  refine v0v ?_
  refine hK3 _ _ ?_
  clear hK4 K4 hK3 K3
  refine x4x x6x (by rfl) ?_
  refine x1x rfl ?_
  refine x2x rfl ?_
  refine y0y ⟨.inr rfl, ?_⟩
  refine y8y rfl ?_ rfl
  exact congrArg (fun v : Int => [AV.pv (.int .i64 v)]) ((a1k (by omega)).trans (by omega)).symm
 try simp at hc5
 obtain ⟨p, hp⟩ : ∃ p, l[i]? = some p := ⟨_, List.getElem?_eq_getElem (by omega)⟩
 have hat := a1z cLa hp
 refine x9x ?_
 refine hK4 _ _ ?_
 clear hK4 K4
 refine x5x fun K6 hK6 => ?_
 refine y7y ?_
 refine x4x x6x (by rfl) ?_
 refine x1x rfl ?_
 refine x1x rfl ?_
 refine z7z rfl rfl b4j rfl a9b rfl (by assumption) ?_
 refine z6z rfl a9b rfl rfl ?_
 refine x1x rfl ?_
 refine y9y rfl rfl rfl (b9e c p (left - (l.length + szs cLa (l.take i))) (by omega)) ?_
 refine x2x rfl ?_
 refine x4x x6x (by rfl) ?_
 refine x1x rfl ?_
 refine y1y rfl rfl rfl ?_
 refine x8x rfl (fun hc7 => ?_) (fun hc7 => ?_)
 ·try simp at hc7
  have hT := b2z hc7
  refine x4x x6x (by rfl) ?_
  refine x2x rfl ?_
  refine y0y ⟨.inr rfl, ?_⟩
  clear hK6 K6 hK3 K3
  refine y8y rfl ?_ rfl
  exact congrArg (fun v : Int => [AV.pv (.int .i64 v)]) (a2m (by omega)).symm
 try simp at hc7
 have h25 : cLa p ≤ left - (l.length + szs cLa (l.take i)) := b2g (by omega)
 rw [a1k h25]
 refine x9x ?_
 refine hK6 _ _ ?_
 clear hK6 K6
 refine y3y x6x (by rfl) ?_
 refine x1x rfl ?_
 refine y1y rfl rfl rfl ?_
 refine x2x rfl ?_
 exact ⟨i + 1, ⟨⟨by omega, by rw [s3s cLa hp]; omega⟩, by omega⟩, [], (Cov.cons' (t := 1) rfl (by rw [s3s cLa hp]; exact congrArg (fun v : Nat => AV.pv (.int .i64 (v : Int))) (by omega)) (Cov.cons' (t := 5) rfl (by rw [v3v (by omega) (by omega)]; rfl) Cov.nil)), (Cov.cons (t := 0) rfl Cov.nil), HE.nil, HE.nil, rfl⟩
theorem b9f (c : Bool) (p : Vi) (left : Nat) (hl : left ≤ 1048576) : s8s Tryz.prog 182 [.agg (a4b c p), .pv (.int .i64 (left : Int))] (.pv (.int .i64 (lf left (cVi p)))) := by
 refine z1z x6x (fn := Tryz.f182) (by kernel_rfl) (by kernel_rfl) rfl (outs := [.pv (.int .i64 (lf left (cVi p)))]) (by rfl) (Nat.le_of_ble_eq_true rfl) 1 ?_
 have hc : cVi p = p.events.length := rfl
 refine x4x x6x (by rfl) ?_
 refine v1v (id := 0) rfl rfl rfl ?_
 refine x2x rfl ?_
 refine x4x x6x (by rfl) ?_
 refine x0x rfl a9c rfl rfl a7b rfl rfl ?_
 refine x3x rfl a7b rfl rfl ?_
 refine x1x rfl ?_
 refine y9y rfl rfl rfl (a4x c p.events left hl) ?_
 refine x2x rfl ?_
 refine x5x fun K1 hK1 => ?_
 refine x4x x6x (by rfl) ?_
 refine x1x rfl ?_
 refine y1y rfl rfl rfl ?_
 refine x8x rfl (fun hc2 => ?_) (fun hc2 => ?_)
 ·try simp at hc2
  have hT := b2z hc2
  refine x4x x6x (by rfl) ?_
  refine x2x rfl ?_
  refine y0y ⟨.inr rfl, ?_⟩
  clear hK1 K1
  refine y8y rfl ?_ rfl
  exact congrArg (fun v : Int => [AV.pv (.int .i64 v)]) (a2m (by omega)).symm
 try simp at hc2
 have h10 : p.events.length ≤ left := b2g (by omega)
 rw [a1k h10]
 refine x9x ?_
 refine hK1 _ _ ?_
 clear hK1 K1
 refine x4x x6x (by rfl) ?_
 refine x1x rfl ?_
 refine x2x rfl ?_
 refine y0y ⟨.inr rfl, ?_⟩
 refine y8y rfl ?_ rfl
 exact congrArg (fun v : Int => [AV.pv (.int .i64 v)]) ((a1k (by omega)).trans (by omega)).symm
theorem b6m (c : Bool) (l : List Vi) (left : Nat) (hl : left ≤ 1048576) : s8s Tryz.prog 97 [b9v c l, .pv (.int .i64 (left : Int))] (.pv (.int .i64 (lf left (b7p l)))) := by
 refine z1z x6x (fn := Tryz.f97) (by kernel_rfl) (by kernel_rfl) rfl (outs := [.pv (.int .i64 (lf left (b7p l)))]) (by rfl) (Nat.le_of_ble_eq_true rfl) 0 ?_
 refine w7w 0 rfl fun hlen => ?_
 have hc : b7p l = l.length + szs cVi l := rfl
 refine x4x x6x (by rfl) ?_
 refine x2x rfl ?_
 refine x4x x6x (by rfl) ?_
 refine x1x rfl ?_
 refine x1x rfl ?_
 refine u0u rfl b4k rfl ?_
 refine a1j (.int .i64 ((left : Int) - (l.length : Int))) rfl rfl rfl (a7z rfl rfl (by omega) (by omega)) ?_
 refine x2x rfl ?_
 refine x5x fun K1 hK1 => ?_
 refine x4x x6x (by rfl) ?_
 refine x1x rfl ?_
 refine y1y rfl rfl rfl ?_
 refine x8x rfl (fun hc2 => ?_) (fun hc2 => ?_)
 ·try simp at hc2
  refine x4x x6x (by rfl) ?_
  refine x2x rfl ?_
  refine y0y ⟨.inr rfl, ?_⟩
  clear hK1 K1
  refine y8y rfl ?_ rfl
  exact congrArg (fun v : Int => [AV.pv (.int .i64 v)]) (a2m (by omega)).symm
 try simp at hc2
 refine x9x ?_
 refine hK1 _ _ ?_
 clear hK1 K1
 refine x5x fun K3 hK3 => ?_
 refine x4x x6x (by rfl) ?_
 refine x2x rfl ?_
 refine y7y ?_
 refine u5u (ι := Nat) (fun i γ1 => [(1, .pv (.int .i64 ((left - (l.length + szs cVi (l.take i)) : Nat) : Int))), (5, .pv (.int .i64 (i : Int)))]) (fun i γ1 => []) (fun i => i ≤ l.length ∧ l.length + szs cVi (l.take i) ≤ left) (fun i => l.length - i) (Cov.cons (t := 0) rfl Cov.nil) HE.nil 0 ⟨by omega, by rw [List.take_zero]; show l.length + 0 ≤ left; omega⟩ [] (Cov.cons' (t := 1) rfl (by rw [List.take_zero]; exact congrArg (fun v : Int => AV.pv (.int .i64 v)) (by show _ = ((left - (l.length + 0) : Nat) : Int); omega)) (Cov.cons (t := 5) rfl Cov.nil)) HE.nil rfl fun i γ1 hi => ?_
 try dsimp only [List.cons_append, List.nil_append]
 obtain ⟨h1, h2⟩ := hi
 refine x5x fun K4 hK4 => ?_
 refine x4x x6x (by rfl) ?_
 refine x1x rfl ?_
 refine x1x rfl ?_
 refine u0u rfl b4k rfl ?_
 refine y1y rfl rfl rfl ?_
 refine x8x rfl (fun hc5 => ?_) (fun hc5 => ?_)
 rotate_left
 ·try simp at hc5
  obtain rfl : i = l.length := by omega
  rw [List.take_length] at h2 ⊢
  refine v0v ?_
  refine hK3 _ _ ?_
  clear hK4 K4 hK3 K3
  refine x4x x6x (by rfl) ?_
  refine x1x rfl ?_
  refine x2x rfl ?_
  refine y0y ⟨.inr rfl, ?_⟩
  refine y8y rfl ?_ rfl
  exact congrArg (fun v : Int => [AV.pv (.int .i64 v)]) ((a1k (by omega)).trans (by omega)).symm
 try simp at hc5
 obtain ⟨p, hp⟩ : ∃ p, l[i]? = some p := ⟨_, List.getElem?_eq_getElem (by omega)⟩
 have hat := a1z cVi hp
 refine x9x ?_
 refine hK4 _ _ ?_
 clear hK4 K4
 refine x5x fun K6 hK6 => ?_
 refine y7y ?_
 refine x4x x6x (by rfl) ?_
 refine x1x rfl ?_
 refine x1x rfl ?_
 refine z7z rfl rfl b4k rfl a9c rfl (by assumption) ?_
 refine z6z rfl a9c rfl rfl ?_
 refine x1x rfl ?_
 refine y9y rfl rfl rfl (b9f c p (left - (l.length + szs cVi (l.take i))) (by omega)) ?_
 refine x2x rfl ?_
 refine x4x x6x (by rfl) ?_
 refine x1x rfl ?_
 refine y1y rfl rfl rfl ?_
 refine x8x rfl (fun hc7 => ?_) (fun hc7 => ?_)
 ·try simp at hc7
  have hT := b2z hc7
  refine x4x x6x (by rfl) ?_
  refine x2x rfl ?_
  refine y0y ⟨.inr rfl, ?_⟩
  clear hK6 K6 hK3 K3
  refine y8y rfl ?_ rfl
  exact congrArg (fun v : Int => [AV.pv (.int .i64 v)]) (a2m (by omega)).symm
 try simp at hc7
 have h25 : cVi p ≤ left - (l.length + szs cVi (l.take i)) := b2g (by omega)
 rw [a1k h25]
 refine x9x ?_
 refine hK6 _ _ ?_
 clear hK6 K6
 refine y3y x6x (by rfl) ?_
 refine x1x rfl ?_
 refine y1y rfl rfl rfl ?_
 refine x2x rfl ?_
 exact ⟨i + 1, ⟨⟨by omega, by rw [s3s cVi hp]; omega⟩, by omega⟩, [], (Cov.cons' (t := 1) rfl (by rw [s3s cVi hp]; exact congrArg (fun v : Nat => AV.pv (.int .i64 (v : Int))) (by omega)) (Cov.cons' (t := 5) rfl (by rw [v3v (by omega) (by omega)]; rfl) Cov.nil)), (Cov.cons (t := 0) rfl Cov.nil), HE.nil, HE.nil, rfl⟩
theorem b9g (c : Bool) (p : Nd) (left : Nat) (hl : left ≤ 1048576) : s8s Tryz.prog 23 [.agg (a0t c p), .pv (.int .i64 (left : Int))] (.pv (.int .i64 (lf left (cNd p)))) := by
 refine z1z x6x (fn := Tryz.f23) (by kernel_rfl) (by kernel_rfl) rfl (outs := [.pv (.int .i64 (lf left (cNd p)))]) (by rfl) (Nat.le_of_ble_eq_true rfl) 1 ?_
 have hc : cNd p = b2w p.lanes + p.kept.length + p.outs.length + b7p p.views + p.known.length := rfl
 refine x4x x6x (by rfl) ?_
 refine v1v (id := 0) rfl rfl rfl ?_
 refine x2x rfl ?_
 refine x4x x6x (by rfl) ?_
 refine x0x rfl a3m rfl rfl b4j rfl rfl ?_
 refine x3x rfl b4j rfl rfl ?_
 refine x1x rfl ?_
 refine y9y rfl rfl rfl (b6l c p.lanes left hl) ?_
 refine x2x rfl ?_
 refine x5x fun K1 hK1 => ?_
 refine x4x x6x (by rfl) ?_
 refine x1x rfl ?_
 refine y1y rfl rfl rfl ?_
 refine x8x rfl (fun hc2 => ?_) (fun hc2 => ?_)
 ·try simp at hc2
  have hT := b2z hc2
  refine x4x x6x (by rfl) ?_
  refine x2x rfl ?_
  refine y0y ⟨.inr rfl, ?_⟩
  clear hK1 K1
  refine y8y rfl ?_ rfl
  exact congrArg (fun v : Int => [AV.pv (.int .i64 v)]) (a2m (by omega)).symm
 try simp at hc2
 have h10 : b2w p.lanes ≤ left := b2g (by omega)
 rw [a1k h10]
 refine x9x ?_
 refine hK1 _ _ ?_
 clear hK1 K1
 refine x4x x6x (by rfl) ?_
 refine x0x rfl a3m rfl rfl a7b rfl rfl ?_
 refine x3x rfl a7b rfl rfl ?_
 refine x1x rfl ?_
 refine y9y rfl rfl rfl (a4x c p.kept (left - b2w p.lanes) (by omega)) ?_
 refine x2x rfl ?_
 refine x5x fun K3 hK3 => ?_
 refine x4x x6x (by rfl) ?_
 refine x1x rfl ?_
 refine y1y rfl rfl rfl ?_
 refine x8x rfl (fun hc4 => ?_) (fun hc4 => ?_)
 ·try simp at hc4
  have hT := b2z hc4
  refine x4x x6x (by rfl) ?_
  refine x2x rfl ?_
  refine y0y ⟨.inr rfl, ?_⟩
  clear hK3 K3
  refine y8y rfl ?_ rfl
  exact congrArg (fun v : Int => [AV.pv (.int .i64 v)]) (a2m (by omega)).symm
 try simp at hc4
 have h16 : p.kept.length ≤ (left - b2w p.lanes) := b2g (by omega)
 rw [a1k h16]
 refine x9x ?_
 refine hK3 _ _ ?_
 clear hK3 K3
 refine x4x x6x (by rfl) ?_
 refine x0x rfl a3m rfl rfl b0q rfl rfl ?_
 refine x3x rfl b0q rfl rfl ?_
 refine x1x rfl ?_
 refine y9y rfl rfl rfl (b1m c p.outs (left - b2w p.lanes - p.kept.length) (by omega)) ?_
 refine x2x rfl ?_
 refine x5x fun K5 hK5 => ?_
 refine x4x x6x (by rfl) ?_
 refine x1x rfl ?_
 refine y1y rfl rfl rfl ?_
 refine x8x rfl (fun hc6 => ?_) (fun hc6 => ?_)
 ·try simp at hc6
  have hT := b2z hc6
  refine x4x x6x (by rfl) ?_
  refine x2x rfl ?_
  refine y0y ⟨.inr rfl, ?_⟩
  clear hK5 K5
  refine y8y rfl ?_ rfl
  exact congrArg (fun v : Int => [AV.pv (.int .i64 v)]) (a2m (by omega)).symm
 try simp at hc6
 have h22 : p.outs.length ≤ ((left - b2w p.lanes) - p.kept.length) := b2g (by omega)
 rw [a1k h22]
 refine x9x ?_
 refine hK5 _ _ ?_
 clear hK5 K5
 refine x4x x6x (by rfl) ?_
 refine x0x rfl a3m rfl rfl b4k rfl rfl ?_
 refine x3x rfl b4k rfl rfl ?_
 refine x1x rfl ?_
 refine y9y rfl rfl rfl (b6m c p.views (left - b2w p.lanes - p.kept.length - p.outs.length) (by omega)) ?_
 refine x2x rfl ?_
 refine x5x fun K7 hK7 => ?_
 refine x4x x6x (by rfl) ?_
 refine x1x rfl ?_
 refine y1y rfl rfl rfl ?_
 refine x8x rfl (fun hc8 => ?_) (fun hc8 => ?_)
 ·try simp at hc8
  have hT := b2z hc8
  refine x4x x6x (by rfl) ?_
  refine x2x rfl ?_
  refine y0y ⟨.inr rfl, ?_⟩
  clear hK7 K7
  refine y8y rfl ?_ rfl
  exact congrArg (fun v : Int => [AV.pv (.int .i64 v)]) (a2m (by omega)).symm
 try simp at hc8
 have h28 : b7p p.views ≤ (((left - b2w p.lanes) - p.kept.length) - p.outs.length) := b2g (by omega)
 rw [a1k h28]
 refine x9x ?_
 refine hK7 _ _ ?_
 clear hK7 K7
 refine x4x x6x (by rfl) ?_
 refine x0x rfl a3m rfl rfl v7v rfl rfl ?_
 refine x3x rfl v7v rfl rfl ?_
 refine x1x rfl ?_
 refine y9y rfl rfl rfl (b9c c p.known (left - b2w p.lanes - p.kept.length - p.outs.length - b7p p.views) (by omega)) ?_
 refine x2x rfl ?_
 refine x5x fun K9 hK9 => ?_
 refine x4x x6x (by rfl) ?_
 refine x1x rfl ?_
 refine y1y rfl rfl rfl ?_
 refine x8x rfl (fun hc10 => ?_) (fun hc10 => ?_)
 ·try simp at hc10
  have hT := b2z hc10
  refine x4x x6x (by rfl) ?_
  refine x2x rfl ?_
  refine y0y ⟨.inr rfl, ?_⟩
  clear hK9 K9
  refine y8y rfl ?_ rfl
  exact congrArg (fun v : Int => [AV.pv (.int .i64 v)]) (a2m (by omega)).symm
 try simp at hc10
 have h34 : p.known.length ≤ ((((left - b2w p.lanes) - p.kept.length) - p.outs.length) - b7p p.views) := b2g (by omega)
 rw [a1k h34]
 refine x9x ?_
 refine hK9 _ _ ?_
 clear hK9 K9
 refine x4x x6x (by rfl) ?_
 refine x1x rfl ?_
 refine x2x rfl ?_
 refine y0y ⟨.inr rfl, ?_⟩
 refine y8y rfl ?_ rfl
 exact congrArg (fun v : Int => [AV.pv (.int .i64 v)]) ((a1k (by omega)).trans (by omega)).symm
end
end Go.Proofs.YtpadkogpeobboaaGreat.Am
