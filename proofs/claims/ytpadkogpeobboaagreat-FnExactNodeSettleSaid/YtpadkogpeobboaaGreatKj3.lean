/- Part 3 of the texts that the proof of LawFnExactNodeSettle leans on, merged by program. -/
import Derived.Test.YtpadkogpeobboaaGreatKj2
set_option linter.unusedVariables false
set_option linter.unusedSimpArgs false
namespace Go.Proofs.YtpadkogpeobboaaGreat.Am
open Go Go.RowKit
section
variable {P : Program}

inductive NilLs : List (List AV) → List (List AV) → Prop
 | refl (l : List (List AV)) : NilLs l l
 | cons {x x' : List AV} {r r' : List (List AV)} (h : NilL x x') (t : NilLs r r') : NilLs (x :: r) (x' :: r')
theorem NilL.refl : ∀ l : List AV, NilL l l
 | [] => .nil
 | _ :: l => .same (NilL.refl l)
theorem NilL.app {a a' b b' : List AV} (h : NilL a a') (k : NilL b b') : NilL (a ++ b) (a' ++ b') := by
 induction h with
 | nil => exact k
 | same _ ih => exact .same ih
 | own _ ih => exact .own ih
theorem NilLs.flat {a b : List (List AV)} (h : NilLs a b) : NilL a.flatten b.flatten := by
 induction h with
 | refl l => exact NilL.refl _
 | cons h _ ih => simpa using h.app ih
theorem NilLs.len {a b : List (List AV)} (h : NilLs a b) : a.length = b.length := by
 induction h with
 | refl l => rfl
 | cons _ _ ih => simp [ih]
variable {n : Nat} {fr : Fr} {h : Hp} {Q : Exit → Fr → Hp → Prop}

inductive LeLs : List (List AV) → List (List AV) → Prop
 | refl (l : List (List AV)) : LeLs l l
 | cons {x x' : List AV} {r r' : List (List AV)} (h : LeCs x x') (t : LeLs r r') : LeLs (x :: r) (x' :: r')
theorem LeLs.flat {a b : List (List AV)} (h : LeLs a b) : LeCs a.flatten b.flatten := by
 induction h with
 | refl l => exact LeCs.refl _
 | cons h _ ih => simpa using h.app ih
theorem LeLs.len {a b : List (List AV)} (h : LeLs a b) : a.length = b.length := by
 induction h with
 | refl l => rfl
 | cons _ _ ih => simp [ih]
variable {tt : TT} {ops : Array Oper} {r : List Oper} {lg : Log} {K : Fr → Hp → Log → Prop} {d : Nat} {ty : TypeId} {pos : String} {af : Array Edge}
theorem Sub.two {i j : Nat} {a a' b b' : Nat × Ent} : Sub [(i, a), (j, b)] [(i, a'), (j, b')] := fun p hp => by
 simp only [List.mem_cons, List.not_mem_nil, or_false] at hp
 rcases hp with rfl | rfl
 ·exact ⟨a', List.mem_cons_self ..⟩
 ·exact ⟨b', List.mem_cons_of_mem _ (List.mem_cons_self ..)⟩
end
section
theorem z8z : (∀ ρ c i g e, a5p ρ c (i, (g, e)) = (ρ i, (c i, inE ρ c e))) ∧
 (∀ ρ c, inB ρ c (.any) = .any) ∧
 (∀ ρ c, inD ρ c (.any) = .any) ∧
 (∀ ρ c, inC ρ c (.any) = .any) ∧
 (∀ ρ c, inA ρ c (.any) = .any) ∧
 (∀ ρ c, inT ρ c (.any) = .any) ∧
 (∀ ρ c v, inB ρ c (.pv v) = .pv v) ∧
 (∀ ρ c v, inD ρ c (.pv v) = .pv v) ∧
 (∀ ρ c v, inC ρ c (.pv v) = .pv v) ∧
 (∀ ρ c v, inA ρ c (.pv v) = .pv v) ∧
 (∀ ρ c v, inT ρ c (.pv v) = .pv v) ∧
 (∀ ρ c m ty sz xs, inB ρ c (.row m ty sz xs) = .row m ty sz xs) ∧
 (∀ ρ c m ty sz xs, inD ρ c (.row m ty sz xs) = .row m ty sz xs) ∧
 (∀ ρ c m ty sz xs, inC ρ c (.row m ty sz xs) = .row m ty sz xs) ∧
 (∀ ρ c m ty sz xs, inA ρ c (.row m ty sz xs) = .row m ty sz xs) ∧
 (∀ ρ c m ty sz xs, inT ρ c (.row m ty sz xs) = .row m ty sz xs) ∧
 (∀ ρ c i g, inB ρ c (.ref i g) = .ref (ρ i) (c i)) ∧
 (∀ ρ c i g, inD ρ c (.ref i g) = .ref (ρ i) (c i)) ∧
 (∀ ρ c i g, inC ρ c (.ref i g) = .ref (ρ i) (c i)) ∧
 (∀ ρ c i g, inA ρ c (.ref i g) = .ref (ρ i) (c i)) ∧
 (∀ ρ c i g, inT ρ c (.ref i g) = .ref (ρ i) (c i)) ∧
 (∀ ρ c i g a b, inB ρ c (.bsl i g a b) = .bsl (ρ i) (c i) a b) ∧
 (∀ ρ c i g a b, inD ρ c (.bsl i g a b) = .bsl (ρ i) (c i) a b) ∧
 (∀ ρ c i g a b, inC ρ c (.bsl i g a b) = .bsl (ρ i) (c i) a b) ∧
 (∀ ρ c i g a b, inA ρ c (.bsl i g a b) = .bsl (ρ i) (c i) a b) ∧
 (∀ ρ c i g a b, inT ρ c (.bsl i g a b) = .bsl (ρ i) (c i) a b) ∧
 (∀ ρ c i g a b, inB ρ c (.cut i g a b) = .cut (ρ i) (c i) a b) ∧
 (∀ ρ c i g a b, inD ρ c (.cut i g a b) = .cut (ρ i) (c i) a b) ∧
 (∀ ρ c i g a b, inC ρ c (.cut i g a b) = .cut (ρ i) (c i) a b) ∧
 (∀ ρ c i g a b, inA ρ c (.cut i g a b) = .cut (ρ i) (c i) a b) ∧
 (∀ ρ c i g a b, inT ρ c (.cut i g a b) = .cut (ρ i) (c i) a b) ∧
 (∀ ρ c i g a, inB ρ c (.ptr i g a) = .ptr (ρ i) (c i) a) ∧
 (∀ ρ c i g a, inD ρ c (.ptr i g a) = .ptr (ρ i) (c i) a) ∧
 (∀ ρ c i g a, inC ρ c (.ptr i g a) = .ptr (ρ i) (c i) a) ∧
 (∀ ρ c i g a, inA ρ c (.ptr i g a) = .ptr (ρ i) (c i) a) ∧
 (∀ ρ c i g a, inT ρ c (.ptr i g a) = .ptr (ρ i) (c i) a) ∧
 (∀ ρ c i g a b, inB ρ c (.elt i g a b) = .elt (ρ i) (c i) a b) ∧
 (∀ ρ c i g a b, inD ρ c (.elt i g a b) = .elt (ρ i) (c i) a b) ∧
 (∀ ρ c i g a b, inC ρ c (.elt i g a b) = .elt (ρ i) (c i) a b) ∧
 (∀ ρ c i g a b, inA ρ c (.elt i g a b) = .elt (ρ i) (c i) a b) ∧
 (∀ ρ c i g a b, inT ρ c (.elt i g a b) = .elt (ρ i) (c i) a b) ∧
 (∀ ρ c cs, inB ρ c (.iel cs) = .iel cs) ∧
 (∀ ρ c cs, inD ρ c (.iel cs) = .iel cs) ∧
 (∀ ρ c cs, inC ρ c (.iel cs) = .iel cs) ∧
 (∀ ρ c cs, inA ρ c (.iel cs) = .iel cs) ∧
 (∀ ρ c cs, inT ρ c (.iel cs) = .iel cs) ∧
 (∀ ρ c cs, inB ρ c (.agg cs) = .agg cs) ∧
 (∀ ρ c cs, inD ρ c (.agg cs) = .agg (cs.map (inB ρ c))) ∧
 (∀ ρ c cs, inC ρ c (.agg cs) = .agg cs) ∧
 (∀ ρ c cs, inA ρ c (.agg cs) = .agg (cs.map (inC ρ c))) ∧
 (∀ ρ c cs, inT ρ c (.agg cs) = .agg (cs.map (inC ρ c))) ∧
 (∀ ρ c cs, inB ρ c (.tup cs) = .tup cs) ∧
 (∀ ρ c cs, inD ρ c (.tup cs) = .tup cs) ∧
 (∀ ρ c cs, inC ρ c (.tup cs) = .tup cs) ∧
 (∀ ρ c cs, inA ρ c (.tup cs) = .tup cs) ∧
 (∀ ρ c cs, inT ρ c (.tup cs) = .tup (cs.map (inA ρ c))) ∧
 (∀ ρ c f a b, inB ρ c (.fn f a b) = .fn f a b) ∧
 (∀ ρ c f a b, inD ρ c (.fn f a b) = .fn f a b) ∧
 (∀ ρ c f a b, inC ρ c (.fn f a b) = .fn f (a.map (inB ρ c)) (b.map (inB ρ c))) ∧
 (∀ ρ c f a b, inA ρ c (.fn f a b) = .fn f (a.map (inB ρ c)) (b.map (inB ρ c))) ∧
 (∀ ρ c f a b, inT ρ c (.fn f a b) = .fn f (a.map (inB ρ c)) (b.map (inB ρ c))) ∧
 (∀ ρ c t a, inB ρ c (.ifc t a) = .ifc t a) ∧
 (∀ ρ c t a, inD ρ c (.ifc t a) = .ifc t a) ∧
 (∀ ρ c t a, inC ρ c (.ifc t a) = .ifc t (inD ρ c a)) ∧
 (∀ ρ c t a, inA ρ c (.ifc t a) = .ifc t (inD ρ c a)) ∧
 (∀ ρ c t a, inT ρ c (.ifc t a) = .ifc t (inD ρ c a)) ∧
 (∀ ρ c i g, inB ρ c (.mp i g) = .mp (ρ i) (c i)) ∧
 (∀ ρ c i g, inD ρ c (.mp i g) = .mp (ρ i) (c i)) ∧
 (∀ ρ c i g, inC ρ c (.mp i g) = .mp (ρ i) (c i)) ∧
 (∀ ρ c i g, inA ρ c (.mp i g) = .mp (ρ i) (c i)) ∧
 (∀ ρ c i g, inT ρ c (.mp i g) = .mp (ρ i) (c i)) ∧
 (∀ ρ c, inE ρ c (.dead) = .dead) ∧
 (∀ ρ c ty cs, inE ρ c (.box ty cs) = .box ty (cs.map (inC ρ c))) ∧
 (∀ ρ c ty sz xs, inE ρ c (.row ty sz xs) = .row ty sz xs) ∧
 (∀ ρ c es, inE ρ c (.map es) = .map es) ∧
 (∀ ρ c ty lty xs, inE ρ c (.chn ty lty xs) = .chn ty lty xs) ∧
 (∀ ρ c l, inE ρ c (.blk l) = .blk l) := by
 refine ⟨?_, ?_, ?_, ?_, ?_, ?_, ?_, ?_, ?_, ?_, ?_, ?_, ?_, ?_, ?_, ?_, ?_, ?_, ?_, ?_, ?_, ?_, ?_, ?_, ?_, ?_, ?_, ?_, ?_, ?_, ?_, ?_, ?_, ?_, ?_, ?_, ?_, ?_, ?_, ?_, ?_, ?_, ?_, ?_, ?_, ?_, ?_, ?_, ?_, ?_, ?_, ?_, ?_, ?_, ?_, ?_, ?_, ?_, ?_, ?_, ?_, ?_, ?_, ?_, ?_, ?_, ?_, ?_, ?_, ?_, ?_, ?_, ?_, ?_, ?_, ?_, ?_⟩ <;> intros <;> rfl
end
section
def c0r : List Int → List Int → Bool
 | a :: az, b :: bs => if a < b then true else if b < a then false else c0r az bs
 | _, _ => false
theorem a7r (a b : Int) (az bs : List Int) : c0r (a :: az) (b :: bs) = if a < b then true else if b < a then false else c0r az bs := rfl
theorem c0s : ∀ az, c0r az az = false
 | [] => rfl
 | a :: az => by rw [a7r, if_neg (by omega), if_neg (by omega)]; exact c0s az
theorem b3u : ∀ az bs cs, c0r az bs = true → c0r bs cs = true → c0r az cs = true
 | [], _, _, h, _ => by simp [c0r] at h
 | _ :: _, [], _, h, _ => by simp [c0r] at h
 | _ :: _, _ :: _, [], _, h => by simp [c0r] at h
 | a :: az, b :: bs, c :: cs, h, k => by
  rw [a7r] at *
  by_cases h1 : a < b <;> by_cases h2 : b < a <;> by_cases h3 : b < c <;> by_cases h4 : c < b <;> simp only [h1, h2, h3, h4, if_true, if_false] at h k <;> first | omega | (cases h; done) | (cases k; done) | (rw [if_pos (by omega)]; done) | (rw [if_neg (by omega), if_neg (by omega)]; exact b3u _ _ _ h k)
theorem c0t : ∀ az bs : List Int, az.length = bs.length → az ≠ bs → c0r az bs = true ∨ c0r bs az = true
 | [], [], _, h => absurd rfl h
 | [], _ :: _, h, _ => by simp at h
 | _ :: _, [], h, _ => by simp at h
 | a :: az, b :: bs, hl, hne => by
  rw [a7r, a7r]
  by_cases h1 : a < b
  ·exact .inl (if_pos h1)
  ·by_cases h2 : b < a
   ·exact .inr (if_pos h2)
   ·have e : a = b := by omega
    subst e
    rw [if_neg h1, if_neg h1, if_neg h1, if_neg h1]
    exact c0t az bs (by simpa using hl) (fun e => hne (by rw [e]))
structure STO {α : Type} (lt : α → α → Bool) : Prop where
 irr : ∀ a, lt a a = false
 trans : ∀ a b c, lt a b = true → lt b c = true → lt a c = true
 tot : ∀ a b, a ≠ b → lt a b = true ∨ lt b a = true
theorem STO.asymm {α : Type} {lt : α → α → Bool} (O : STO lt) {a b : α} (h : lt a b = true) : lt b a = false := by
 cases hb : lt b a
 ·rfl
 ·have := O.trans _ _ _ h hb; rw [O.irr] at this; cases this
theorem STO.eq {α : Type} {lt : α → α → Bool} (O : STO lt) {a b : α} (h : lt a b = false) (k : lt b a = false) : a = b := by
 apply Classical.byContradiction
 intro hne
 rcases O.tot a b hne with h1 | h1
 ·rw [h] at h1; cases h1
 ·rw [k] at h1; cases h1
theorem STO.ntrans {α : Type} {lt : α → α → Bool} (O : STO lt) {a b c : α} (h : lt b a = false) (k : lt c b = false) : lt c a = false := by
 cases hc : lt c a
 ·rfl
 ·by_cases e : a = b
  ·subst e; rw [hc] at k; cases k
  ·rcases O.tot a b e with h1 | h1
   ·rw [O.trans _ _ _ hc h1] at k; cases k
   ·rw [h] at h1; cases h1
theorem STO.lt_of {α : Type} {lt : α → α → Bool} (O : STO lt) {a b : α} (h : lt b a = false) (hne : a ≠ b) : lt a b = true := by
 rcases O.tot a b hne with h1 | h1
 ·exact h1
 ·rw [h] at h1; cases h1
section
variable {α : Type} {lt : α → α → Bool}

def SS (lt : α → α → Bool) (l : List α) : Prop := l.Pairwise (fun a b => lt a b = true)

def WS (lt : α → α → Bool) (l : List α) : Prop := l.Pairwise (fun a b => lt b a = false)
theorem SS.uniq (O : STO lt) : ∀ {l l' : List α}, SS lt l → SS lt l' → (∀ x, x ∈ l ↔ x ∈ l') → l = l'
 | [], [], _, _, _ => rfl
 | [], b :: bs, _, _, h => absurd ((h b).2 (by simp)) (by simp)
 | a :: az, [], _, _, h => absurd ((h a).1 (by simp)) (by simp)
 | a :: az, b :: bs, h1, h2, h => by
  obtain ⟨h3, h4⟩ := List.pairwise_cons.1 h1
  obtain ⟨h5, h6⟩ := List.pairwise_cons.1 h2
  have e : a = b := by
   have hab := (h a).1 (by simp)
   have hba := (h b).2 (by simp)
   rcases List.mem_cons.1 hab with e | hm
   ·exact e
   ·rcases List.mem_cons.1 hba with e | hm'
    ·exact e.symm
    ·have := O.trans _ _ _ (h3 b hm') (h5 a hm); rw [O.irr] at this; cases this
  subst e
  rw [SS.uniq O h4 h6 (fun x => ?_)]
  have hx := h x
  simp only [List.mem_cons] at hx
  constructor
  ·intro hm
   rcases hx.1 (.inr hm) with e | e
   ·subst e; have := h3 x hm; rw [O.irr] at this; cases this
   ·exact e
  ·intro hm
   rcases hx.2 (.inr hm) with e | e
   ·subst e; have := h5 x hm; rw [O.irr] at this; cases this
   ·exact e
theorem WS.uniq (O : STO lt) : ∀ {l l' : List α}, WS lt l → WS lt l' → l.Perm l' → l = l'
 | [], l', _, _, h => (List.nil_perm.1 h).symm ▸ rfl
 | a :: az, [], _, _, h => absurd h.symm (by simp)
 | a :: az, b :: bs, h1, h2, h => by
  obtain ⟨h3, h4⟩ := List.pairwise_cons.1 h1
  obtain ⟨h5, h6⟩ := List.pairwise_cons.1 h2
  have e : a = b := by
   have hab : a ∈ b :: bs := h.mem_iff.1 (by simp)
   have hba : b ∈ a :: az := h.mem_iff.2 (by simp)
   rcases List.mem_cons.1 hab with e | hm
   ·exact e
   ·rcases List.mem_cons.1 hba with e | hm'
    ·exact e.symm
    ·exact O.eq (h5 a hm) (h3 b hm')
  subst e
  rw [WS.uniq O h4 h6 ((List.perm_cons a).1 h)]
theorem SS.ws (O : STO lt) {l : List α} (h : SS lt l) : WS lt l := List.Pairwise.imp (fun h => O.asymm h) h

def c3b [DecidableEq α] (lt : α → α → Bool) (x : α) : List α → List α
 | [] => [x]
 | y :: r => if x = y then y :: r else if lt x y then x :: y :: r else y :: c3b lt x r
def d5o [DecidableEq α] (lt : α → α → Bool) (l : List α) : List α := l.foldl (fun acc x => c3b lt x acc) []
theorem b5j [DecidableEq α] (x z : α) : ∀ l : List α, z ∈ c3b lt x l ↔ z = x ∨ z ∈ l
 | [] => by simp [c3b]
 | y :: r => by
  unfold c3b
  by_cases e : x = y
  ·subst e; rw [if_pos rfl]; simp only [List.mem_cons]; constructor
   ·exact .inr
   ·rintro (h | h | h)
    ·exact .inl h
    ·exact .inl h
    ·exact .inr h
  ·rw [if_neg e]
   by_cases h : lt x y = true
   ·rw [if_pos h]; simp
   ·rw [if_neg h]; simp only [List.mem_cons, b5j x z r]; constructor
    ·rintro (h | h | h)
     ·exact .inr (.inl h)
     ·exact .inl h
     ·exact .inr (.inr h)
    ·rintro (h | h | h)
     ·exact .inr (.inl h)
     ·exact .inl h
     ·exact .inr (.inr h)
theorem c5b [DecidableEq α] (O : STO lt) (x : α) : ∀ l : List α, SS lt l → SS lt (c3b lt x l)
 | [], _ => by simp [c3b, SS]
 | y :: r, h => by
  unfold c3b
  obtain ⟨h1, h2⟩ := List.pairwise_cons.1 h
  by_cases e : x = y
  ·rw [if_pos e]; exact h
  ·rw [if_neg e]
   by_cases hx : lt x y = true
   ·rw [if_pos hx]
    refine List.pairwise_cons.2 ⟨fun z hz => ?_, h⟩
    rcases List.mem_cons.1 hz with rfl | hz
    ·exact hx
    ·exact O.trans _ _ _ hx (h1 z hz)
   ·rw [if_neg hx]
    refine List.pairwise_cons.2 ⟨fun z hz => ?_, c5b O x r h2⟩
    rcases (b5j x z r).1 hz with rfl | hz
    ·exact O.lt_of (by simpa using hx) (Ne.symm e)
    ·exact h1 z hz
theorem b2q [DecidableEq α] (O : STO lt) : ∀ (l acc : List α), SS lt acc → SS lt (l.foldl (fun acc x => c3b lt x acc) acc)
 | [], _, h => h
 | x :: l, acc, h => b2q O l _ (c5b O x acc h)
theorem b0u [DecidableEq α] (z : α) : ∀ (l acc : List α), z ∈ l.foldl (fun acc x => c3b lt x acc) acc ↔ z ∈ acc ∨ z ∈ l
 | [], acc => by simp
 | x :: l, acc => by
  rw [List.foldl_cons, b0u z l, b5j]
  simp only [List.mem_cons]
  constructor
  ·rintro ((h | h) | h)
   ·exact .inr (.inl h)
   ·exact .inl h
   ·exact .inr (.inr h)
  ·rintro (h | h | h)
   ·exact .inl (.inr h)
   ·exact .inl (.inl h)
   ·exact .inr h
theorem d0e [DecidableEq α] (O : STO lt) (l : List α) : SS lt (d5o lt l) := b2q O l [] .nil
theorem b0i [DecidableEq α] (z : α) (l : List α) : z ∈ d5o lt l ↔ z ∈ l := by rw [d5o, b0u]; simp

theorem d5p [DecidableEq α] (O : STO lt) {l s : List α} (h : SS lt s) (hm : ∀ x, x ∈ s ↔ x ∈ l) : s = d5o lt l :=
 SS.uniq O h (d0e O l) (fun x => (hm x).trans (b0i x l).symm)

def c6h (lt : α → α → Bool) (x : α) : List α → List α
 | [] => [x]
 | y :: r => if lt x y then x :: y :: r else y :: c6h lt x r
def d0f (lt : α → α → Bool) (l : List α) : List α := l.foldl (fun acc x => c6h lt x acc) []
theorem b6s (x : α) : ∀ l : List α, (c6h lt x l).Perm (x :: l)
 | [] => List.Perm.refl _
 | y :: r => by
  unfold c6h
  split
  ·exact List.Perm.refl _
  ·exact ((b6s x r).cons y).trans (List.Perm.swap x y r)
theorem d0g (O : STO lt) (x : α) : ∀ l : List α, WS lt l → WS lt (c6h lt x l)
 | [], _ => by simp [c6h, WS]
 | y :: r, h => by
  unfold c6h
  obtain ⟨h1, h2⟩ := List.pairwise_cons.1 h
  split
  ·rename_i hx
   refine List.pairwise_cons.2 ⟨fun z hz => ?_, h⟩
   rcases List.mem_cons.1 hz with rfl | hz
   ·exact O.asymm hx
   ·exact O.ntrans (O.asymm hx) (h1 z hz)
  ·rename_i hx
   refine List.pairwise_cons.2 ⟨fun z hz => ?_, d0g O x r h2⟩
   rcases List.mem_cons.1 ((b6s x r).mem_iff.1 hz) with rfl | hz
   ·simpa using hx
   ·exact h1 z hz
theorem b2r (O : STO lt) : ∀ (l acc : List α), WS lt acc → WS lt (l.foldl (fun acc x => c6h lt x acc) acc)
 | [], _, h => h
 | x :: l, acc, h => b2r O l _ (d0g O x acc h)
theorem a9p : ∀ (l acc : List α), (l.foldl (fun acc x => c6h lt x acc) acc).Perm (acc ++ l)
 | [], acc => by simp
 | x :: l, acc => (a9p l _).trans (((b6s x acc).append_right l).trans (by
   have := List.perm_middle (a := x) (l₁ := acc) (l₂ := l)
   exact this.symm))
theorem c0u (O : STO lt) (l : List α) : WS lt (d0f lt l) := b2r O l [] .nil
theorem a9q (l : List α) : (d0f lt l).Perm l := a9p l []
theorem d0h (O : STO lt) {l s : List α} (h : WS lt s) (hp : s.Perm l) : s = d0f lt l := WS.uniq O h (c0u O l) (hp.trans (a9q l).symm)
theorem c7o (O : STO lt) {l l' : List α} (h : l.Perm l') : d0f lt l = d0f lt l' := d0h O (c0u O l) ((a9q l).trans h)
end
end
section
section
variable {α : Type} {lt : α → α → Bool}

def sw (l : List α) (i j : Nat) : List α := match l[i]?, l[j]? with
 | some a, some b => (l.set i b).set j a
 | _, _ => l
theorem d0i {l : List α} {i j : Nat} {a b : α} (hi : l[i]? = some a) (hj : l[j]? = some b) : sw l i j = (l.set i b).set j a := by simp [sw, hi, hj]
theorem a6o (l : List α) (i j : Nat) : (sw l i j).length = l.length := by
 unfold sw; split <;> simp
theorem d4a {l : List α} {i j : Nat} {a b : α} (hi : l[i]? = some a) (hj : l[j]? = some b) (k : Nat) : (sw l i j)[k]? = if k = j then some a else if k = i then some b else l[k]? := by
 have h1 := (List.getElem?_eq_some_iff.1 hi).1
 have h2 := (List.getElem?_eq_some_iff.1 hj).1
 rw [d0i hi hj, List.getElem?_set, List.getElem?_set]
 by_cases e : k = j
 ·subst e; simp [h2]
 ·rw [if_neg (Ne.symm e), if_neg e]
  by_cases e2 : k = i
  ·subst e2; simp [h1]
  ·rw [if_neg (Ne.symm e2), if_neg e2]
theorem d0j (l : List α) (i j : Nat) : (sw l i j).Perm l := by
 unfold sw
 split
 ·rename_i a b hi hj
  obtain ⟨h1, e1⟩ := List.getElem?_eq_some_iff.1 hi
  obtain ⟨h2, e2⟩ := List.getElem?_eq_some_iff.1 hj
  have := Array.swap_perm (xs := l.toArray) (i := i) (j := j) (by simpa using h1) (by simpa using h2)
  have e : (l.toArray.swap i j (by simpa using h1) (by simpa using h2)).toList = (l.set i b).set j a := by
   simp [Array.swap, e1, e2]
  have := this.toList
  rw [e] at this
  simpa using this
 ·exact List.Perm.refl _
def c7p (lt : α → α → Bool) (l : List α) : Prop := ∀ i a b, 0 < i → l[i]? = some a → l[(i - 1) / 2]? = some b → lt a b = false

def a5s (lt : α → α → Bool) (l : List α) (k : Nat) : List α :=
 if h : 0 < k then match l[k]?, l[(k - 1) / 2]? with
  | some a, some b => if lt a b then a5s lt (sw l k ((k - 1) / 2)) ((k - 1) / 2) else l
  | _, _ => l
 else l
termination_by k
decreasing_by omega
theorem b1r {l : List α} {k : Nat} {a b : α} (h : 0 < k) (ha : l[k]? = some a) (hb : l[(k - 1) / 2]? = some b) (hl : lt a b = true) : a5s lt l k = a5s lt (sw l k ((k - 1) / 2)) ((k - 1) / 2) := by
 rw [a5s, dif_pos h, ha, hb]; simp [hl]
theorem b1s {l : List α} {k : Nat} {a b : α} (ha : l[k]? = some a) (hb : l[(k - 1) / 2]? = some b) (hl : lt a b = false) : a5s lt l k = l := by
 rw [a5s]; split
 ·rw [ha, hb]; simp [hl]
 ·rfl
theorem siftUp_zero {l : List α} : a5s lt l 0 = l := by rw [a5s]; simp
def HU (lt : α → α → Bool) (l : List α) (k : Nat) : Prop :=
 (∀ i a b, 0 < i → i ≠ k → l[i]? = some a → l[(i - 1) / 2]? = some b → lt a b = false) ∧
 (∀ i a b, 0 < k → 0 < i → (i - 1) / 2 = k → l[i]? = some a → l[(k - 1) / 2]? = some b → lt a b = false)
theorem c5d (O : STO lt) (k : Nat) : ∀ (l : List α), k < l.length → HU lt l k → c7p lt (a5s lt l k) ∧ (a5s lt l k).Perm l := by
 induction k using Nat.strongRecOn with
 | _ k ih =>
 intro l hk h
 by_cases h0 : 0 < k
 ·obtain ⟨a, ha⟩ : ∃ a, l[k]? = some a := ⟨_, List.getElem?_eq_getElem hk⟩
  obtain ⟨b, hb⟩ : ∃ b, l[(k - 1) / 2]? = some b := ⟨_, List.getElem?_eq_getElem (by omega)⟩
  cases hl : lt a b
  ·rw [b1s ha hb hl]
   refine ⟨fun i c d hi hc hd => ?_, List.Perm.refl _⟩
   by_cases e : i = k
   ·subst e; rw [ha] at hc; rw [hb] at hd; cases hc; cases hd; exact hl
   ·exact h.1 i c d hi e hc hd
  ·rw [b1r h0 ha hb hl]
   have hg := d4a ha hb
   have := ih ((k - 1) / 2) (by omega) (sw l k ((k - 1) / 2)) (by rw [a6o]; omega) ⟨fun i c d hi hne hc hd => ?_, fun i c d hu hi hp hc hd => ?_⟩
   ·exact ⟨this.1, this.2.trans (d0j _ _ _)⟩
   ·rw [hg, if_neg hne] at hc
    rw [hg] at hd
    by_cases e : i = k
    ·subst e
     rw [if_pos rfl] at hc
     rw [if_pos rfl] at hd
     cases hc; cases hd
     exact O.asymm hl
    ·rw [if_neg e] at hc
     by_cases e1 : (i - 1) / 2 = (k - 1) / 2
     ·rw [if_pos e1] at hd
      cases hd
      have h1 := h.1 i c b hi e hc (by rw [e1]; exact hb)
      cases hc' : lt c a
      ·rfl
      ·rw [O.trans _ _ _ hc' hl] at h1; cases h1
     ·rw [if_neg e1] at hd
      by_cases e2 : (i - 1) / 2 = k
      ·rw [if_pos e2] at hd
       cases hd
       exact h.2 i c b h0 hi e2 hc hb
      ·rw [if_neg e2] at hd
       exact h.1 i c d hi e hc hd
   ·have hd' : l[((k - 1) / 2 - 1) / 2]? = some d := by
     rw [hg, if_neg (by omega), if_neg (by omega)] at hd; exact hd
    have hbd := h.1 ((k - 1) / 2) b d hu (by omega) hb hd'
    rw [hg, if_neg (by omega)] at hc
    by_cases e : i = k
    ·rw [if_pos e] at hc; cases hc; exact hbd
    ·rw [if_neg e] at hc
     exact O.ntrans hbd (h.1 i c b hi e hc (by rw [hp]; exact hb))
 ·have : k = 0 := by omega
  subst this
  rw [siftUp_zero]
  exact ⟨fun i c d hi hc hd => h.1 i c d hi (by omega) hc hd, List.Perm.refl _⟩
def b2s (lt : α → α → Bool) (l : List α) (x : α) : List α := a5s lt (l ++ [x]) l.length
theorem c7q (O : STO lt) {l : List α} (h : c7p lt l) (x : α) : c7p lt (b2s lt l x) ∧ (b2s lt l x).Perm (l ++ [x]) := by
 refine c5d O _ _ (by simp) ⟨fun i a b hi hne ha hb => ?_, fun i a b _ hi hp ha hb => ?_⟩
 ·have hlt := (List.getElem?_eq_some_iff.1 ha).1
  simp only [List.length_append, List.length_cons, List.length_nil] at hlt
  rw [List.getElem?_append_left (by omega)] at ha
  rw [List.getElem?_append_left (by omega)] at hb
  exact h i a b hi ha hb
 ·have hlt := (List.getElem?_eq_some_iff.1 ha).1
  simp only [List.length_append, List.length_cons, List.length_nil] at hlt
  omega
theorem c7r (k : Nat) : ∀ l : List α, (a5s lt l k).length = l.length := by
 induction k using Nat.strongRecOn with
 | _ k ih =>
 intro l
 rw [a5s]
 split
 ·split
  ·split
   ·rw [ih _ (by omega), a6o]
   ·rfl
  ·rfl
 ·rfl
theorem d0k (l : List α) (x : α) : (b2s lt l x).length = l.length + 1 := by rw [b2s, c7r]; simp

def a1u (lt : α → α → Bool) (l : List α) (k : Nat) : Nat := match l[2 * k + 2]?, l[2 * k + 1]? with
 | some c, some d => if lt c d then 2 * k + 2 else 2 * k + 1
 | _, _ => 2 * k + 1
theorem a8i (l : List α) (k : Nat) : a1u lt l k = 2 * k + 1 ∨ (a1u lt l k = 2 * k + 2 ∧ 2 * k + 2 < l.length) := by
 unfold a1u
 split
 ·rename_i c d h1 h2
  split
  ·exact .inr ⟨rfl, (List.getElem?_eq_some_iff.1 h1).1⟩
  ·exact .inl rfl
 ·exact .inl rfl
theorem d0l {l : List α} {k : Nat} {c d : α} (hc : l[2 * k + 2]? = some c) (hd : l[2 * k + 1]? = some d) (h : lt c d = true) : a1u lt l k = 2 * k + 2 := by
 unfold a1u; rw [hc, hd]; simp [h]
theorem d0m {l : List α} {k : Nat} {c d : α} (hc : l[2 * k + 2]? = some c) (hd : l[2 * k + 1]? = some d) (h : lt c d = false) : a1u lt l k = 2 * k + 1 := by
 unfold a1u; rw [hc, hd]; simp [h]
theorem d0n {l : List α} {k : Nat} (h : ¬ 2 * k + 2 < l.length) : a1u lt l k = 2 * k + 1 := by
 unfold a1u; rw [List.getElem?_eq_none (by omega)]

def a0w (lt : α → α → Bool) (l : List α) (k : Nat) : List α :=
 if h : 2 * k + 1 < l.length then match l[a1u lt l k]?, l[k]? with
  | some a, some b => if lt a b then a0w lt (sw l (a1u lt l k) k) (a1u lt l k) else l
  | _, _ => l
 else l
termination_by l.length - k
decreasing_by
 rw [a6o]
 rcases a8i (lt := lt) l k with h1 | h1 <;> omega
theorem a3j {l : List α} {k : Nat} (h : ¬ 2 * k + 1 < l.length) : a0w lt l k = l := by rw [a0w, dif_neg h]
theorem a8j {l : List α} {k : Nat} {a b : α} (h : 2 * k + 1 < l.length) (ha : l[a1u lt l k]? = some a) (hb : l[k]? = some b) (hl : lt a b = true) : a0w lt l k = a0w lt (sw l (a1u lt l k) k) (a1u lt l k) := by
 rw [a0w, dif_pos h, ha, hb]; simp [hl]
theorem a8k {l : List α} {k : Nat} {a b : α} (ha : l[a1u lt l k]? = some a) (hb : l[k]? = some b) (hl : lt a b = false) : a0w lt l k = l := by
 rw [a0w]; split
 ·rw [ha, hb]; simp [hl]
 ·rfl
theorem d2s (O : STO lt) {l : List α} {k i : Nat} {c d : α} (hi : 0 < i) (hp : (i - 1) / 2 = k) (hc : l[i]? = some c) (hd : l[a1u lt l k]? = some d) : lt c d = false := by
 have hlt := (List.getElem?_eq_some_iff.1 hc).1
 unfold a1u at hd
 split at hd
 ·rename_i x y h1 h2
  split at hd
  ·rename_i hxy
   rw [h1] at hd; cases hd
   rcases (show i = 2 * k + 1 ∨ i = 2 * k + 2 by omega) with e | e
   ·subst e; rw [h2] at hc; cases hc; exact O.asymm hxy
   ·subst e; rw [h1] at hc; cases hc; exact O.irr _
  ·rename_i hxy
   rw [h2] at hd; cases hd
   rcases (show i = 2 * k + 1 ∨ i = 2 * k + 2 by omega) with e | e
   ·subst e; rw [h2] at hc; cases hc; exact O.irr _
   ·subst e; rw [h1] at hc; cases hc; simpa using hxy
 ·rename_i hno
  rcases (show i = 2 * k + 1 ∨ i = 2 * k + 2 by omega) with e | e
  ·subst e; rw [hc] at hd; cases hd; exact O.irr _
  ·subst e; exact absurd hd (fun h => hno c d hc h)
def HD (lt : α → α → Bool) (l : List α) (k : Nat) : Prop :=
 (∀ i a b, 0 < i → (i - 1) / 2 ≠ k → l[i]? = some a → l[(i - 1) / 2]? = some b → lt a b = false) ∧
 (∀ i a b, 0 < k → 0 < i → (i - 1) / 2 = k → l[i]? = some a → l[(k - 1) / 2]? = some b → lt a b = false)
theorem c0v (O : STO lt) : ∀ (n k : Nat) (l : List α), l.length - k ≤ n → HD lt l k → c7p lt (a0w lt l k) ∧ (a0w lt l k).Perm l := by
 intro n
 induction n with
 | zero =>
  intro k l hn h
  rw [a3j (by omega)]
  refine ⟨fun i c d hi hc hd => ?_, List.Perm.refl _⟩
  have := (List.getElem?_eq_some_iff.1 hc).1
  exact h.1 i c d hi (by omega) hc hd
 | succ n ih =>
  intro k l hn h
  by_cases h0 : 2 * k + 1 < l.length
  ·have hcl : a1u lt l k < l.length := by rcases a8i (lt := lt) l k with h1 | h1 <;> omega
   have hcp : (a1u lt l k - 1) / 2 = k := by rcases a8i (lt := lt) l k with h1 | h1 <;> omega
   have hc0 : 0 < a1u lt l k := by rcases a8i (lt := lt) l k with h1 | h1 <;> omega
   obtain ⟨a, ha⟩ : ∃ a, l[a1u lt l k]? = some a := ⟨_, List.getElem?_eq_getElem hcl⟩
   obtain ⟨b, hb⟩ : ∃ b, l[k]? = some b := ⟨_, List.getElem?_eq_getElem (by omega)⟩
   have hch := fun i c (hi : 0 < i) hp hc => d2s O (l := l) (k := k) (i := i) (c := c) hi hp hc ha
   cases hl : lt a b
   ·rw [a8k ha hb hl]
    refine ⟨fun i c d hi hc hd => ?_, List.Perm.refl _⟩
    by_cases e : (i - 1) / 2 = k
    ·rw [e, hb] at hd; cases hd
     exact O.ntrans hl (hch i c hi e hc)
    ·exact h.1 i c d hi e hc hd
   ·rw [a8j h0 ha hb hl]
    have hg := d4a ha hb
    generalize hm : a1u lt l k = m at *
    have := ih m (sw l m k) (by rw [a6o]; omega) ⟨fun i c d hi hne hc hd => ?_, fun i c d hm0 hi hp hc hd => ?_⟩
    ·exact ⟨this.1, this.2.trans (d0j _ _ _)⟩
    ·rw [hg] at hc hd
     by_cases e : (i - 1) / 2 = k
     ·rw [if_pos e] at hd; cases hd
      rw [if_neg (by omega)] at hc
      by_cases e1 : i = m
      ·rw [if_pos e1] at hc; cases hc; exact O.asymm hl
      ·rw [if_neg e1] at hc; exact hch i c hi e hc
     ·rw [if_neg e, if_neg hne] at hd
      by_cases e1 : i = k
      ·rw [if_pos e1] at hc; cases hc
       subst e1
       exact h.2 m a d hi hc0 hcp ha hd
      ·rw [if_neg e1] at hc
       by_cases e2 : i = m
       ·subst e2; exact absurd hcp e
       ·rw [if_neg e2] at hc
        exact h.1 i c d hi e hc hd
    ·rw [hg] at hc hd
     rw [if_neg (by omega), if_neg (by omega)] at hc
     rw [if_pos (by omega)] at hd
     cases hd
     exact h.1 i c a hi (by omega) hc (by rw [hp]; exact ha)
  ·rw [a3j h0]
   refine ⟨fun i c d hi hc hd => ?_, List.Perm.refl _⟩
   have := (List.getElem?_eq_some_iff.1 hc).1
   exact h.1 i c d hi (by omega) hc hd
theorem c3d (n k : Nat) : ∀ l : List α, l.length - k ≤ n → (a0w lt l k).length = l.length := by
 induction n generalizing k with
 | zero => intro l h; rw [a3j (by omega)]
 | succ n ih =>
  intro l h
  rw [a0w]
  split
  ·split
   ·split
    ·rw [ih _ _ (by rw [a6o]; rcases a8i (lt := lt) l k with h1 | h1 <;> omega), a6o]
    ·rfl
   ·rfl
  ·rfl

def a8l (lt : α → α → Bool) : List α → List α
 | [] => []
 | m :: r => a0w lt (((m :: r).set 0 ((m :: r).getLast (by simp))).take r.length) 0
theorem c0w (m : α) (r : List α) : (((m :: r).set 0 ((m :: r).getLast (by simp))).take r.length).Perm r := by
 rcases List.eq_nil_or_concat r with rfl | ⟨mid, x, rfl⟩
 ·simp
 ·simp only [List.set_cons_zero]
  have e : (m :: (mid.concat x)).getLast (by simp) = x := by simp [List.concat_eq_append, List.getLast_cons]
  rw [e]
  have e2 : (x :: mid.concat x).take (mid.concat x).length = x :: mid := by
   simp [List.concat_eq_append]
  rw [e2, List.concat_eq_append]
  exact (List.perm_append_comm (l₁ := [x]) (l₂ := mid))
theorem c7s (O : STO lt) {m : α} {r : List α} (h : c7p lt (m :: r)) : c7p lt (a8l lt (m :: r)) ∧ (a8l lt (m :: r)).Perm r := by
 have := c0v O _ 0 (((m :: r).set 0 ((m :: r).getLast (by simp))).take r.length) (Nat.le_refl _) ⟨fun i a b hi hne ha hb => ?_, fun i a b h0 => by omega⟩
 ·exact ⟨this.1, this.2.trans (c0w m r)⟩
 ·rw [List.getElem?_take] at ha hb
  split at ha
  ·split at hb
   ·rw [List.getElem?_set_ne (by omega)] at ha hb
    exact h i a b hi ha hb
   ·cases hb
  ·cases ha
theorem a5t : ∀ l : List α, (a8l lt l).length = l.length - 1
 | [] => rfl
 | m :: r => by
  rw [a8l, c3d _ _ _ (Nat.le_refl _)]
  simp
theorem d2t (O : STO lt) {m : α} {r : List α} (h : c7p lt (m :: r)) : ∀ (i : Nat) (a : α), (m :: r)[i]? = some a → lt a m = false := by
 intro i
 induction i using Nat.strongRecOn with
 | _ i ih =>
 intro a ha
 by_cases h0 : i = 0
 ·subst h0; simp at ha; subst ha; exact O.irr _
 ·have hlt := (List.getElem?_eq_some_iff.1 ha).1
  obtain ⟨b, hb⟩ : ∃ b, (m :: r)[(i - 1) / 2]? = some b := ⟨_, List.getElem?_eq_getElem (by omega)⟩
  exact O.ntrans (ih _ (by omega) b hb) (h i a b (by omega) ha hb)
def a2s (lt : α → α → Bool) : Nat → List α → List α
 | 0, _ => []
 | k + 1, l => match l with
  | [] => []
  | m :: r => m :: a2s lt k (a8l lt (m :: r))
theorem b6t (O : STO lt) : ∀ (k : Nat) (l : List α), l.length ≤ k → c7p lt l → WS lt (a2s lt k l) ∧ (a2s lt k l).Perm l
 | 0, l, hk, _ => by
  have : l = [] := List.length_eq_zero_iff.1 (by omega)
  subst this; exact ⟨.nil, List.Perm.refl _⟩
 | k + 1, [], _, _ => ⟨.nil, List.Perm.refl _⟩
 | k + 1, m :: r, hk, h => by
  obtain ⟨h1, h2⟩ := c7s O h
  obtain ⟨h3, h4⟩ := b6t O k (a8l lt (m :: r)) (by rw [a5t]; simpa using hk) h1
  refine ⟨List.pairwise_cons.2 ⟨fun z hz => ?_, h3⟩, (h4.trans h2).cons m⟩
  have hz' : z ∈ m :: r := List.mem_cons_of_mem _ ((h4.trans h2).mem_iff.1 hz)
  obtain ⟨i, hi⟩ := List.getElem?_of_mem hz'
  exact d2t O h i z hi
theorem d0o (O : STO lt) {l : List α} (h : c7p lt l) {k : Nat} (hk : l.length ≤ k) : a2s lt k l = d0f lt l := d0h O (b6t O k l hk h).1 (b6t O k l hk h).2

theorem b6u : ∀ (k : Nat) (l : List α), (a2s lt k l).length ≤ k
 | 0, _ => Nat.le_refl _
 | k + 1, [] => Nat.zero_le _
 | k + 1, m :: r => by simp only [a2s, List.length_cons]; have := b6u k (a8l lt (m :: r)); omega
def a8m (lt : α → α → Bool) (l : List α) : List α := l.foldl (b2s lt) []
theorem b9l (l : List α) (x : α) : a8m lt (l ++ [x]) = b2s lt (a8m lt l) x := by simp [a8m]
theorem d2u : c7p lt ([] : List α) := fun i a b _ h => by simp at h
theorem b6v (O : STO lt) : ∀ (l acc : List α), c7p lt acc → c7p lt (l.foldl (b2s lt) acc) ∧ (l.foldl (b2s lt) acc).Perm (acc ++ l)
 | [], acc, h => ⟨h, by simp⟩
 | x :: l, acc, h => by
  obtain ⟨h1, h2⟩ := c7q O h x
  obtain ⟨h3, h4⟩ := b6v O l _ h1
  refine ⟨h3, h4.trans ((h2.append_right l).trans ?_)⟩
  simp
theorem c6i (O : STO lt) (l : List α) : c7p lt (a8m lt l) ∧ (a8m lt l).Perm l := b6v O l [] d2u
theorem a5u (l : List α) : (a8m lt l).length = l.length := by
 have : ∀ (l acc : List α), (l.foldl (b2s lt) acc).length = acc.length + l.length := by
  intro l
  induction l with
  | nil => simp
  | cons x l ih => intro acc; rw [List.foldl_cons, ih, d0k]; simp; omega
 rw [a8m, this]; simp

theorem c6j (O : STO lt) (l : List α) : a2s lt l.length (a8m lt l) = d0f lt l := by
 rw [d0o O (c6i O l).1 (by rw [a5u]; exact Nat.le_refl _)]
 exact c7o O (c6i O l).2
theorem d0p [DecidableEq α] (O : STO lt) {l l' : List α} (hn : l'.Nodup) (hm : ∀ x, x ∈ l' ↔ x ∈ l) : d0f lt l' = d5o lt l := by
 refine d5p O ?_ fun x => ((a9q l').mem_iff).trans (hm x)
 have h1 := c0u O l'
 have h2 : (d0f lt l').Nodup := (a9q l').nodup_iff.2 hn
 exact (List.Pairwise.and h1 h2).imp fun {a b} h => O.lt_of h.1 h.2
end
end
section
structure Ev where
 time : Int
 to : Int
 from' : Int
 count : Int
 n : Int
 kind : Int
 arg : Int
 deriving DecidableEq, Inhabited
structure Ou where
 time : Int
 proc : Int
 count : Int
 n : Int
 value : Int
 deriving DecidableEq, Inhabited
structure St where
 x : Int
 y : Int
 count : Int
 deriving DecidableEq, Inhabited
structure Pa where
 ev : Ev
 after : St
 sends : List Ev
 outs : List Ou
 deriving DecidableEq, Inhabited
structure La where
 proc : Int
 base : St
 done : List Pa
 deriving DecidableEq, Inhabited
structure Vi where
 inc : Int
 version : Int
 events : List Ev
 deriving DecidableEq, Inhabited
structure Nd where
 id : Int
 up : Bool
 inc : Int
 g : Int
 lanes : List La
 kept : List Ev
 outs : List Ou
 led : Int
 version : Int
 views : List Vi
 known : List Int
 round : Int
 low : Int
 deriving DecidableEq, Inhabited
def evN (e : Ev) : List Int := [e.time, e.to, e.from', e.count, e.n, e.kind, e.arg]
def ouL (o : Ou) : List Int := [o.time, o.proc, o.count, o.n, o.value]
def stL (s : St) : List Int := [s.x, s.y, s.count]
theorem d0q {a b : Ev} (h : evN a = evN b) : a = b := by
 cases a; cases b; simp [evN] at h; simp [h]
theorem d5q {a b : Ou} (h : ouL a = ouL b) : a = b := by
 cases a; cases b; simp [ouL] at h; simp [h]
def d1t : List Int → List Int → Int
 | a :: az, b :: bs => if a < b then -1 else if b < a then 1 else d1t az bs
 | [], [] => 0
 | [], _ :: _ => -1
 | _ :: _, [] => 1
theorem c3e (a b : Int) (az bs : List Int) : d1t (a :: az) (b :: bs) = if a < b then -1 else if b < a then 1 else d1t az bs := rfl
theorem c0x : ∀ az bs : List Int, az.length = bs.length → decide (d1t az bs < 0) = c0r az bs
 | [], [], _ => rfl
 | [], _ :: _, h => by simp at h
 | _ :: _, [], h => by simp at h
 | a :: az, b :: bs, h => by
  rw [c3e, a7r]
  by_cases h1 : a < b
  ·rw [if_pos h1, if_pos h1]; rfl
  ·rw [if_neg h1, if_neg h1]
   by_cases h2 : b < a
   ·rw [if_pos h2, if_pos h2]; rfl
   ·rw [if_neg h2, if_neg h2]; exact c0x az bs (by simpa using h)
theorem c3f {az bs : List Int} {i : Nat} {a b : Int} (ha : az[i]? = some a) (hb : bs[i]? = some b) : d1t (az.drop i) (bs.drop i) = if a < b then -1 else if b < a then 1 else d1t (az.drop (i + 1)) (bs.drop (i + 1)) := by
 obtain ⟨h1, e1⟩ := List.getElem?_eq_some_iff.1 ha
 obtain ⟨h2, e2⟩ := List.getElem?_eq_some_iff.1 hb
 rw [List.drop_eq_getElem_cons h1, List.drop_eq_getElem_cons h2, e1, e2, c3e]
def a2b (a b : Ev) : Bool := c0r (evN a) (evN b)
def a3c (a b : Ou) : Bool := c0r (ouL a) (ouL b)
theorem c3g : STO a2b := ⟨fun a => c0s _, fun a b c => b3u _ _ _, fun a b h => c0t _ _ rfl (fun e => h (d0q e))⟩
theorem d5r : STO a3c := ⟨fun a => c0s _, fun a b c => b3u _ _ _, fun a b h => c0t _ _ rfl (fun e => h (d5q e))⟩

def q8q (l : List Ev) : List Ev := d5o a2b l
def a1y (l : List Ou) : List Ou := d0f a3c l

def r5r : List Ev → List Ev := List.foldl (fun acc e => if e ∈ acc then acc else acc ++ [e]) []
theorem b9m (x : Ev) : ∀ (l acc : List Ev), x ∈ l.foldl (fun acc e => if e ∈ acc then acc else acc ++ [e]) acc ↔ x ∈ acc ∨ x ∈ l
 | [], acc => by simp
 | e :: l, acc => by
  rw [List.foldl_cons, b9m x l]
  split
  ·rename_i h
   simp only [List.mem_cons]
   constructor
   ·rintro (h' | h')
    ·exact .inl h'
    ·exact .inr (.inr h')
   ·rintro (h' | h' | h')
    ·exact .inl h'
    ·subst h'; exact .inl h
    ·exact .inr h'
  ·simp only [List.mem_append, List.mem_cons, List.not_mem_nil, or_false, or_assoc]
theorem a8v : ∀ (l acc : List Ev), acc.Nodup → (l.foldl (fun acc e => if e ∈ acc then acc else acc ++ [e]) acc).Nodup
 | [], acc, h => h
 | e :: l, acc, h => by
  rw [List.foldl_cons]
  refine a8v l _ ?_
  split
  ·exact h
  ·rename_i hne
   exact List.nodup_append.2 ⟨h, by simp, fun a ha b hb => by
    rw [List.mem_singleton] at hb; subst hb; rintro rfl; exact hne ha⟩
theorem a1b (x : Ev) (l : List Ev) : x ∈ r5r l ↔ x ∈ l := by rw [r5r, b9m]; simp
theorem b4n (l : List Ev) : (r5r l).Nodup := a8v l [] .nil
theorem a8n (l : List Ev) (e : Ev) : r5r (l ++ [e]) = if e ∈ r5r l then r5r l else r5r l ++ [e] := by
 simp only [r5r, List.foldl_append, List.foldl_cons, List.foldl_nil]
 rfl
theorem b3v (l : List Ev) : (r5r l).length ≤ l.length := by
 have : ∀ (l acc : List Ev), (l.foldl (fun acc e => if e ∈ acc then acc else acc ++ [e]) acc).length ≤ acc.length + l.length := by
  intro l
  induction l with
  | nil => simp
  | cons e l ih =>
   intro acc
   rw [List.foldl_cons]
   refine Nat.le_trans (ih _) ?_
   split <;> simp <;> omega
 have := this l []
 simpa [r5r] using this

theorem b6w (l : List Ev) : a2s a2b (r5r l).length (a8m a2b (r5r l)) = q8q l := by
 rw [c6j c3g, d0p c3g (b4n l) (fun x => a1b x l)]; rfl
def a3k (p : Int) : Int := if 0 ≤ p ∧ p ≤ 3 then p.tmod 3 else -1
def d2v (p : Int) : Ev := if 0 ≤ p ∧ p ≤ 3 then ⟨0, p, -1, 0, p, 0, p⟩ else ⟨0, 0, 0, 0, 0, 0, 0⟩
def a1c (id : Int) : Nat → List Int
 | 0 => []
 | k + 1 => if a3k (k : Int) = id then a1c id k ++ [(k : Int)] else a1c id k
theorem a7s (id : Int) (k : Nat) : a1c id (k + 1) = if a3k (k : Int) = id then a1c id k ++ [(k : Int)] else a1c id k := rfl
theorem a5v (id : Int) : ∀ k, (a1c id k).length ≤ k
 | 0 => Nat.le_refl _
 | k + 1 => by
  have := a5v id k
  rw [a7s]; split <;> simp <;> omega
def pkx (bs : List Nat) (p : Nat) : Nat := bs.getD (p % bs.length) 0 * 131 + bs.getD ((p * 7 + 3) % bs.length) 0 * 1117 + p * 29 + p / bs.length * 53
def pk (bs : List Nat) (p n : Nat) : Nat :=
 if n = 0 ∨ bs.length = 0 then 0
 else if p < bs.length then bs.getD p 0 % n
 else (pkx bs p ^^^ pkx bs p / 64) % n
def d0r (p : Int) : La := ⟨p, ⟨0, 0, 0⟩, []⟩
def bp (l : La) : St × Int := (l.base, l.proc)
def d7k (a b : Nd) : Prop := a.id = b.id ∧ a.inc = b.inc ∧ a.g = b.g ∧ a.led = b.led ∧ a.kept = b.kept ∧ a.outs = b.outs ∧ a.lanes.map bp = b.lanes.map bp
instance (a b : Nd) : Decidable (d7k a b) := by unfold d7k; infer_instance
theorem d7l {a b r : Int} (h : ¬ (if a < b then -1 else if b < a then 1 else 0 : Int) = 0) : (if a < b then -1 else if b < a then 1 else r) = (if a < b then -1 else if b < a then 1 else 0 : Int) := by
 split
 ·rfl
 ·split
  ·rfl
  ·rename_i h1 h2; rw [if_neg h1, if_neg h2] at h; exact absurd rfl h
theorem d7m {a b r : Int} (h : (if a < b then -1 else if b < a then 1 else 0 : Int) = 0) : (if a < b then -1 else if b < a then 1 else r) = r := by
 split at h
 ·omega
 ·split at h
  ·omega
  ·rename_i h1 h2; rw [if_neg h1, if_neg h2]
def nd0 : Nd := ⟨0, false, 0, 0, [], [], [], 0, 0, [], [], 0, 0⟩
def vi0 : Vi := ⟨0, 0, []⟩
def d7n (id : Int) : Nd := if 0 ≤ id ∧ id ≤ 2 then ⟨id, true, 1, 0, (a1c id 4).map d0r, q8q ((a1c id 4).map d2v), [], 0, 1, [vi0, vi0, vi0], [0, 0, 0], 0, 41⟩ else nd0
def a7t (l : La) : La := ⟨l.proc, l.base, []⟩
def c3h (n : Nd) : Nd := ⟨n.id, n.up, n.inc, n.g, n.lanes.map a7t, n.kept, n.outs, n.led, 0, [vi0, vi0, vi0], [0, 0, 0], 0, 41⟩

def fnd (p : Int) (i : Nat) : Int := if 0 ≤ a3k p ∧ a3k p < i then 1 else 0
end
section
section
variable {α : Type} (sz : α → Nat) (mk : Nat → α → α)
def szs : List α → Nat
 | [] => 0
 | p :: r => sz p + szs r
def mks : Nat → List α → List α
 | _, [] => []
 | k, p :: r => mk k p :: mks (k + sz p) r
theorem a4p (k : Nat) (l : List α) : (mks sz mk k l).length = l.length := by
 induction l generalizing k with
 | nil => rfl
 | cons p r ih => simp [mks, ih]
theorem a0l {l : List α} {i : Nat} {p : α} (h : l[i]? = some p) : szs sz (l.take (i + 1)) = szs sz (l.take i) + sz p := by
 induction l generalizing i with
 | nil => simp at h
 | cons a r ih =>
  cases i with
  | zero => simp at h; subst h; simp [szs]
  | succ i => simp at h; simp only [List.take_succ_cons, szs, ih h]; omega
theorem c5e (l : List α) (i : Nat) : szs sz (l.take i) ≤ szs sz l := by
 induction l generalizing i with
 | nil => simp
 | cons a r ih =>
  cases i with
  | zero => simp [szs]
  | succ i => simp only [List.take_succ_cons, szs]; have := ih i; omega
theorem a2t {l : List α} {i : Nat} {p : α} (h : l[i]? = some p) : szs sz (l.take i) + sz p ≤ szs sz l := by
 rw [← a0l sz h]; exact c5e sz l (i + 1)
theorem a4q (h : ∀ p, 1 ≤ sz p) (l : List α) : l.length ≤ szs sz l := by
 induction l with
 | nil => exact Nat.zero_le _
 | cons a r ih => have := h a; simp only [szs, List.length_cons]; omega
theorem a4r {l : List α} {k i : Nat} {p : α} (h : l[i]? = some p) : (mks sz mk k l)[i]? = some (mk (k + szs sz (l.take i)) p) := by
 induction l generalizing i k with
 | nil => simp at h
 | cons a r ih =>
  cases i with
  | zero => simp at h; subst h; simp [mks, szs]
  | succ i => simp at h; simp only [mks, List.getElem?_cons_succ, ih h, List.take_succ_cons, szs]; rw [Nat.add_assoc]
end
theorem p1p {α : Type} {l : List α} {i : Nat} {e : α} (h : l[i]? = some e) : l.take (i + 1) = l.take i ++ [e] := by
 rw [List.take_add_one, h]; rfl
theorem q2q {α : Type} {l : List α} {i : Nat} {p : α} (h : l[i]? = some p) : l.drop i = p :: l.drop (i + 1) := by
 obtain ⟨hi, rfl⟩ := List.getElem?_eq_some_iff.1 h
 exact List.drop_eq_getElem_cons hi
def mEv (k : Nat) : Ev := ⟨k, (k + 1 : Nat), (k + 1 + 1 : Nat), (k + 1 + 1 + 1 : Nat), (k + 1 + 1 + 1 + 1 : Nat), (k + 1 + 1 + 1 + 1 + 1 : Nat), (k + 1 + 1 + 1 + 1 + 1 + 1 : Nat)⟩
def mOu (k : Nat) : Ou := ⟨k, (k + 1 : Nat), (k + 1 + 1 : Nat), (k + 1 + 1 + 1 : Nat), (k + 1 + 1 + 1 + 1 : Nat)⟩
def mSt (k : Nat) : St := ⟨k, (k + 1 : Nat), (k + 1 + 1 : Nat)⟩
def zI : Int → Nat := fun _ => 1
def kI : Nat → Int → Int := fun k _ => (k : Int)
def zEv : Ev → Nat := fun _ => 7
def kEv : Nat → Ev → Ev := fun k _ => mEv k
def zOu : Ou → Nat := fun _ => 5
def kOu : Nat → Ou → Ou := fun k _ => mOu k
def zPa (p : Pa) : Nat := 10 + szs zEv p.sends + szs zOu p.outs
def kPa (k : Nat) (p : Pa) : Pa := ⟨mEv k, mSt (k + 7), mks zEv kEv (k + 10) p.sends, mks zOu kOu (k + 10 + szs zEv p.sends) p.outs⟩
def zLa (l : La) : Nat := 4 + szs zPa l.done
def kLa (k : Nat) (l : La) : La := ⟨(k : Int), mSt (k + 1), mks zPa kPa (k + 4) l.done⟩
def zVi (v : Vi) : Nat := 2 + szs zEv v.events
def kVi (k : Nat) (v : Vi) : Vi := ⟨(k : Int), (k + 1 : Nat), mks zEv kEv (k + 2) v.events⟩
def zNd (n : Nd) : Nat := szs zLa n.lanes + szs zEv n.kept + szs zOu n.outs + szs zVi n.views + szs zI n.known
def kNd (k : Nat) (n : Nd) : Nd := { n with
 lanes := mks zLa kLa k n.lanes
 kept := mks zEv kEv (k + szs zLa n.lanes) n.kept
 outs := mks zOu kOu (k + szs zLa n.lanes + szs zEv n.kept) n.outs
 views := mks zVi kVi (k + szs zLa n.lanes + szs zEv n.kept + szs zOu n.outs) n.views
 known := mks zI kI (k + szs zLa n.lanes + szs zEv n.kept + szs zOu n.outs + szs zVi n.views) n.known }
end
section
def lf (left c : Nat) : Int := if c ≤ left then ((left - c : Nat) : Int) else -1
theorem a2e {left c : Nat} (h : c ≤ left) : lf left c = ((left - c : Nat) : Int) := if_pos h
theorem a3l {left c : Nat} (h : ¬ c ≤ left) : lf left c = -1 := if_neg h
theorem b4q {left c : Nat} (h : lf left c < 0) : ¬ c ≤ left := fun h2 => by rw [a2e h2] at h; omega
theorem b3w {left c : Nat} (h : ¬ lf left c < 0) : c ≤ left := Decidable.byContradiction fun h2 => h (by rw [a3l h2]; decide)
def cPa (p : Pa) : Nat := p.sends.length + p.outs.length
def c0y (l : List Pa) : Nat := l.length + szs cPa l
def cLa (l : La) : Nat := c0y l.done
def b4o (l : List La) : Nat := l.length + szs cLa l
def cVi (v : Vi) : Nat := v.events.length
def b9n (l : List Vi) : Nat := l.length + szs cVi l
def cNd (n : Nd) : Nat := b4o n.lanes + n.kept.length + n.outs.length + b9n n.views + n.known.length
end
section
def b6x (e : Ev) : Prop := (0 ≤ e.time ∧ e.time ≤ 40) ∧ (0 ≤ e.to ∧ e.to ≤ 3) ∧ (-1 ≤ e.from' ∧ e.from' ≤ 3) ∧ (0 ≤ e.count ∧ e.count ≤ 12) ∧ (0 ≤ e.n ∧ e.n ≤ 3) ∧ (0 ≤ e.kind ∧ e.kind ≤ 3) ∧ (0 ≤ e.arg ∧ e.arg ≤ 999)
instance (e : Ev) : Decidable (b6x e) := by unfold b6x; infer_instance
def b9o (s : St) : Prop := (0 ≤ s.x ∧ s.x ≤ 999) ∧ (0 ≤ s.y ∧ s.y ≤ 999) ∧ (0 ≤ s.count ∧ s.count ≤ 12)
instance (s : St) : Decidable (b9o s) := by unfold b9o; infer_instance
def c6k (o : Ou) : Prop := (0 ≤ o.time ∧ o.time ≤ 40) ∧ (0 ≤ o.proc ∧ o.proc ≤ 3) ∧ (0 ≤ o.count ∧ o.count ≤ 11) ∧ (0 ≤ o.n ∧ o.n ≤ 1) ∧ (0 ≤ o.value ∧ o.value ≤ 999)
instance (o : Ou) : Decidable (c6k o) := by unfold c6k; infer_instance
section
variable {α : Type} (ok : α → Bool) (lt : α → α → Bool)

def a7h : Option α → List α → Bool
 | _, [] => true
 | o, a :: r => ok a && (match o with
  | none => true
  | some b => lt b a) && a7h (some a) r
theorem a3y {o : Option α} {a : α} {r : List α} (h : ok a = false) : a7h ok lt o (a :: r) = false := by simp [a7h, h]
theorem b3x {b a : α} {r : List α} (h : lt b a = false) : a7h ok lt (some b) (a :: r) = false := by simp [a7h, h]
theorem a7u {b a : α} {r : List α} (h : ok a = true) (h2 : lt b a = true) : a7h ok lt (some b) (a :: r) = a7h ok lt (some a) r := by simp [a7h, h, h2]
theorem a5l {a : α} {r : List α} (h : ok a = true) : a7h ok lt none (a :: r) = a7h ok lt (some a) r := by simp [a7h, h]
end
def a9d {α : Type} (l : List α) (i : Nat) : Option α := match i with
 | 0 => none
 | i + 1 => l[i]?
def a7i {α : Type} (ok : α → Bool) (lt : α → α → Bool) (l : List α) (most : Int) : Bool := decide ((l.length : Int) ≤ most) && a7h ok lt none l
theorem a9r {α : Type} {ok : α → Bool} {lt : α → α → Bool} {l : List α} {most : Int} (h : ¬ (l.length : Int) ≤ most) : a7i ok lt l most = false := by simp [a7i, h]
theorem b6y {α : Type} {ok : α → Bool} {lt : α → α → Bool} {l : List α} {most : Int} (h : (l.length : Int) ≤ most) : a7i ok lt l most = a7h ok lt none l := by simp [a7i, h]
def okE (e : Ev) : Bool := decide (b6x e)
def okO (o : Ou) : Bool := decide (c6k o)
theorem c6l (a b : Int) (x y : List Int) : c0r (a :: x) (b :: y) = true ↔ a < b ∨ (a = b ∧ c0r x y = true) := by
 rw [a7r]
 by_cases h1 : a < b
 ·simp [h1]
 ·by_cases h2 : b < a
  ·simp [h1, h2]; omega
  ·have : a = b := by omega
   subst this; simp
def d0s (a b : Ev) : Prop := a.time < b.time ∨ (a.time = b.time ∧ (a.to < b.to ∨ (a.to = b.to ∧ (a.from' < b.from' ∨ (a.from' = b.from' ∧ (a.count < b.count ∨ (a.count = b.count ∧ (a.n < b.n ∨ (a.n = b.n ∧ (a.kind < b.kind ∨ (a.kind = b.kind ∧ a.arg < b.arg)))))))))))
instance (a b : Ev) : Decidable (d0s a b) := by unfold d0s; infer_instance
theorem a8o (a b : Ev) : a2b a b = decide (d0s a b) := by
 rw [Bool.eq_iff_iff, decide_eq_true_iff]
 simp only [a2b, evN, c6l, d0s]
 simp [c0r]
def d1u (a b : Ou) : Prop := a.time < b.time ∨ (a.time = b.time ∧ (a.proc < b.proc ∨ (a.proc = b.proc ∧ (a.count < b.count ∨ (a.count = b.count ∧ (a.n < b.n ∨ (a.n = b.n ∧ a.value < b.value)))))))
instance (a b : Ou) : Decidable (d1u a b) := by unfold d1u; infer_instance
theorem b0j (a b : Ou) : a3c a b = decide (d1u a b) := by
 rw [Bool.eq_iff_iff, decide_eq_true_iff]
 simp only [a3c, ouL, c6l, d1u]
 simp [c0r]
def b2t (proc : Int) (p : Pa) : Bool := decide (b6x p.ev) && decide (p.ev.to = proc) && decide (b9o p.after) && a7i okE a2b p.sends 2 && a7i okO a3c p.outs 2
def d4b (a b : Pa) : Bool := a2b a.ev b.ev
def a6v (l : La) : Bool := decide (0 ≤ l.proc ∧ l.proc ≤ 3) && decide (b9o l.base) && a7i (b2t l.proc) d4b l.done 100
theorem d0t {l : La} (h1 : 0 ≤ l.proc ∧ l.proc ≤ 3) (h2 : b9o l.base) (h3 : l.done.length ≤ 100) : a6v l = a7h (b2t l.proc) d4b none l.done := by
 rw [a6v, decide_eq_true h1, decide_eq_true h2, b6y (by omega)]; rfl
theorem d4c {l : La} (h : ¬ (0 ≤ l.proc ∧ l.proc ≤ 3)) : a6v l = false := by rw [a6v, decide_eq_false h]; rfl
theorem d4e {l : La} (h : ¬ b9o l.base) : a6v l = false := by rw [a6v, decide_eq_false h]; simp
theorem d4f {l : La} (h : ¬ l.done.length ≤ 100) : a6v l = false := by rw [a6v, a9r (by omega)]; simp
end
section
noncomputable def kb (p : Prop) : Bool := @decide p (Classical.propDecidable p)
theorem d4g {p : Prop} (h : p) : true = kb p := by unfold kb; exact (@decide_eq_true p (Classical.propDecidable p) h).symm
theorem a7j {p : Prop} (h : ¬ p) : false = kb p := by unfold kb; exact (@decide_eq_false p (Classical.propDecidable p) h).symm
theorem b0v {p : Prop} : kb p = true ↔ p := ⟨fun h => Classical.byContradiction (fun hn => by rw [← a7j hn] at h; cases h), fun h => (d4g h).symm⟩
theorem a4z {p : Prop} (h : kb p = false) : ¬ p := fun hp => by rw [← d4g hp] at h; cases h
theorem d7o {b : Bool} {p : Prop} (h : b = true ↔ p) : b = kb p := by
 cases b
 ·exact a7j fun hp => by have := h.2 hp; cases this
 ·exact d4g (h.1 rfl)
def a5w (n : Nd) : Prop := (0 ≤ n.id ∧ n.id ≤ 2) ∧ (1 ≤ n.inc ∧ n.inc ≤ 9999) ∧ (0 ≤ n.g ∧ n.g ≤ 41) ∧ (0 ≤ n.led ∧ n.led ≤ 9999) ∧ (0 ≤ n.version ∧ n.version ≤ 9999) ∧ (0 ≤ n.round ∧ n.round ≤ 9999) ∧ (0 ≤ n.low ∧ n.low ≤ 41)
instance (n : Nd) : Decidable (a5w n) := by unfold a5w; infer_instance
def d1v (v : Vi) : Prop := (0 ≤ v.inc ∧ v.inc ≤ 9999) ∧ (0 ≤ v.version ∧ v.version ≤ 9999) ∧ a7i okE a2b v.events 100 = true
def d2w (n : Nd) : Prop := ∀ (i : Nat) v k, n.views[i]? = some v → n.known[i]? = some k → d1v v ∧ 0 ≤ k ∧ k ≤ 41
def a6w (n : Nd) : Prop := n.views.length = 3 ∧ n.known.length = 3 ∧ (0 ≤ n.version ∧ n.version ≤ 9999) ∧ (0 ≤ n.round ∧ n.round ≤ 9999) ∧ (0 ≤ n.low ∧ n.low ≤ 41) ∧ d2w n
def d2x (n : Nd) : Prop := ∀ (i : Nat) l, n.lanes[i]? = some l → (a1c n.id 4)[i]? = some l.proc ∧ a6v l = true
def a1v (n : Nd) : Prop := a5w n ∧ a7i okE a2b n.kept 100 = true ∧ a7i okO a3c n.outs 96 = true ∧ (∀ (i : Nat) o, n.outs[i]? = some o → o.time < n.g) ∧ n.lanes.length = (a1c n.id 4).length ∧ n.views.length = 3 ∧ n.known.length = 3 ∧ d2x n ∧ d2w n

def c7y {α : Type} (l : List α) (p : Nat → α → Prop) (i : Nat) : Prop := ∀ (j : Nat) a, j < i → l[j]? = some a → p j a
theorem a4g {α : Type} {l : List α} {p : Nat → α → Prop} : c7y l p 0 := fun j a h => absurd h (Nat.not_lt_zero j)
theorem a4h {α : Type} {l : List α} {p : Nat → α → Prop} {i : Nat} {a : α} (h : c7y l p i) (ha : l[i]? = some a) (hp : p i a) : c7y l p (i + 1) := fun j b hj hb => by
 by_cases e : j = i
 ·subst e; rw [ha] at hb; cases hb; exact hp
 ·exact h j b (by omega) hb
theorem a6p {α : Type} {l : List α} {p : Nat → α → Prop} {i : Nat} (h : c7y l p i) (hi : l.length ≤ i) : ∀ (j : Nat) a, l[j]? = some a → p j a := fun j a ha => h j a (by have := (List.getElem?_eq_some_iff.1 ha).1; omega) ha
end
section
def b1t (l : La) : List Ev := l.done.flatMap Pa.sends
def a2u (n : Nd) : List Ev := n.kept ++ n.lanes.flatMap b1t
def b3y (n : Nd) (j : Nat) : List Ev := if (j : Int) = n.id then [] else (n.views.getD j vi0).events
def a0q (n : Nd) (i : Nat) : List Ev := (List.range i).flatMap (b3y n)
def a5x (proc g : Int) (e : Ev) : Bool := decide (e.to = proc ∧ g ≤ e.time)
def a0u (n : Nd) (proc : Int) : List Ev := q8q ((a2u n ++ a0q n 3).filter (a5x proc n.g))
theorem a2v {α β : Type} {f : α → List β} {l : List α} {i : Nat} {p : α} (h : l[i]? = some p) : (l.take (i + 1)).flatMap f = (l.take i).flatMap f ++ f p := by
 rw [List.take_add_one, h]; simp
theorem c3i {α β : Type} {f : α → List β} {l : List α} {i : Nat} {p : α} (h : l[i]? = some p) : ((l.take i).flatMap f).length + (f p).length ≤ (l.flatMap f).length := by
 have e : l = l.take i ++ p :: l.drop (i + 1) := by
  rw [← q2q h, List.take_append_drop]
 conv => rhs; rw [e]
 simp only [List.flatMap_append, List.flatMap_cons, List.length_append]; omega
theorem c3j {n : Nd} {i j : Nat} {p : La} {q : Pa} (hp : n.lanes[i]? = some p) (hq : p.done[j]? = some q) : (n.kept ++ (n.lanes.take i).flatMap b1t ++ (p.done.take j).flatMap Pa.sends ++ q.sends).length ≤ (a2u n).length := by
 have h1 := c3i (f := b1t) hp
 have h2 := c3i (f := Pa.sends) hq
 have h3 : (b1t p).length = (p.done.flatMap Pa.sends).length := rfl
 simp only [a2u, List.length_append] at *
 omega
theorem a1k (n : Nd) (i : Nat) : a0q n (i + 1) = a0q n i ++ b3y n i := by simp [a0q, List.range_succ]
theorem c3k (n : Nd) {i : Nat} (h : i ≤ 3) : (a0q n i).length ≤ (a0q n 3).length := by
 have : i = 0 ∨ i = 1 ∨ i = 2 ∨ i = 3 := by omega
 have h0 : a0q n 0 = [] := rfl
 have h1 := a1k n 0
 have h2 := a1k n 1
 have h3 := a1k n 2
 rcases this with rfl | rfl | rfl | rfl <;> simp only [h3, h2, h1, h0, List.length_append, List.length_nil] <;> omega
theorem a1l {α : Type} {p : α → Bool} {l : List α} {i : Nat} {a : α} (h : l[i]? = some a) : (l.take (i + 1)).filter p = (l.take i).filter p ++ if p a then [a] else [] := by
 rw [List.take_add_one, h, List.filter_append]
 cases hp : p a <;> simp [hp]
end
section
def same : List Pa → List Ev → Nat
 | p :: r, e :: s => if p.ev = e then same r s + 1 else 0
 | _, _ => 0
theorem c3l {l : List Pa} {s : List Ev} {i : Nat} {p : Pa} {e : Ev} (hp : l[i]? = some p) (he : s[i]? = some e) (h : p.ev = e) : same (l.drop i) (s.drop i) = same (l.drop (i + 1)) (s.drop (i + 1)) + 1 := by
 rw [q2q hp, q2q he, same, if_pos h]
theorem c3m {l : List Pa} {s : List Ev} {i : Nat} {p : Pa} {e : Ev} (hp : l[i]? = some p) (he : s[i]? = some e) (h : ¬ p.ev = e) : same (l.drop i) (s.drop i) = 0 := by
 rw [q2q hp, q2q he, same, if_neg h]
theorem c3n {l : List Pa} {s : List Ev} {i : Nat} (h : l.length ≤ i) : same (l.drop i) (s.drop i) = 0 := by
 rw [List.drop_of_length_le h]; rfl
theorem c3o {l : List Pa} {s : List Ev} {i : Nat} (h : s.length ≤ i) : same (l.drop i) (s.drop i) = 0 := by
 rw [List.drop_of_length_le h]; cases l.drop i <;> rfl
section
variable {α : Type} [DecidableEq α] {lt : α → α → Bool}
theorem b9p (O : STO lt) {x : α} : ∀ {a b : List α}, (∀ y ∈ a, lt y x = true) → (∀ y ∈ b, lt x y = true) → c3b lt x (a ++ b) = a ++ x :: b
 | [], [], _, _ => rfl
 | [], y :: b, _, hb => by
  have h := hb y (List.mem_cons_self ..)
  have hne : x ≠ y := fun e => by subst e; rw [O.irr] at h; cases h
  simp only [List.nil_append, c3b, if_neg hne, h, if_true]
 | y :: a, b, ha, hb => by
  have h := ha y (List.mem_cons_self ..)
  have hne : x ≠ y := fun e => by subst e; rw [O.irr] at h; cases h
  have hn : lt x y = false := O.asymm h
  simp only [List.cons_append, c3b, if_neg hne, hn, Bool.false_eq_true, if_false]
  rw [b9p O (fun z hz => ha z (List.mem_cons_of_mem _ hz)) hb]
theorem d5s (O : STO lt) {x : α} {o : List α} (h : SS lt o) (hx : x ∈ o) : c3b lt x o = o :=
 SS.uniq O (c5b O x o h) h fun z => by rw [b5j]; exact ⟨fun q => q.elim (fun e => e ▸ hx) id, .inr⟩

theorem d0u (O : STO lt) {x : α} {o : List α} {k : Nat} (h : SS lt o) (hk : ∀ (j : Nat) y, k ≤ j → o[j]? = some y → lt x y = true) (hl : ∀ y, 0 < k → o[k - 1]? = some y → lt x y = false ∧ y ≠ x) (hk2 : k ≤ o.length) : c3b lt x o = o.take k ++ x :: o.drop k := by
 conv => lhs; rw [← List.take_append_drop k o]
 refine b9p O (fun y hy => ?_) (fun y hy => ?_)
 ·obtain ⟨j, hj⟩ := List.getElem?_of_mem hy
  rw [List.getElem?_take] at hj
  split at hj
  ·rename_i hjk
   have hkl : k - 1 < o.length := by omega
   obtain ⟨z, hz⟩ : ∃ z, o[k - 1]? = some z := ⟨_, List.getElem?_eq_getElem hkl⟩
   obtain ⟨q1, q2⟩ := hl z (by omega) hz
   have hzx : lt z x = true := by
    rcases O.tot _ _ q2 with h1 | h1
    ·exact h1
    ·rw [h1] at q1; cases q1
   by_cases e : j = k - 1
   ·subst e; rw [hj] at hz; cases hz; exact hzx
   ·have hlt : lt y z = true := by
     obtain ⟨p1, rfl⟩ := List.getElem?_eq_some_iff.1 hj
     obtain ⟨p2, rfl⟩ := List.getElem?_eq_some_iff.1 hz
     exact List.pairwise_iff_getElem.1 h j (k - 1) p1 p2 (by omega)
    exact O.trans _ _ _ hlt hzx
  ·cases hj
 ·obtain ⟨j, hj⟩ := List.getElem?_of_mem hy
  rw [List.getElem?_drop] at hj
  exact hk (k + j) y (by omega) hj
end
theorem c5f (l : List Ev) (x : Ev) : q8q (l ++ [x]) = c3b a2b x (q8q l) := by simp [q8q, d5o]
theorem b1u {l : List Ev} {i : Nat} {x : Ev} (h : l[i]? = some x) : q8q (l.take (i + 1)) = c3b a2b x (q8q (l.take i)) := by rw [p1p h, c5f]
theorem b2u (l : List Ev) : SS a2b (q8q l) := d0e c3g l
theorem b6z (l : List Ev) : (q8q l).length ≤ l.length := by
 have := (b6w l)
 rw [← this]
 exact Nat.le_trans (b6u _ _) (b3v l)
section
variable {α : Type} {o : List α} {n : Nat} {w x z : α}
theorem c3p (hn : n ≤ o.length) : (o.take n).length = n := by rw [List.length_take]; omega
theorem c6m (hn : n ≤ o.length) (h0 : 0 < n) (hz : o[n - 1]? = some z) : (o.take n ++ w :: o.drop n)[n - 1]? = some z := by
 rw [List.getElem?_append_left (by rw [c3p hn]; omega), List.getElem?_take, if_pos (by omega), hz]
theorem c3q (hn : n ≤ o.length) : (o.take n ++ w :: o.drop n)[n]? = some w := by
 rw [List.getElem?_append_right (by rw [c3p hn]; exact Nat.le_refl _), c3p hn, Nat.sub_self]; rfl
theorem d0v (hn : n ≤ o.length) : (o.take n ++ w :: o.drop n).set n x = o.take n ++ x :: o.drop n := by
 rw [List.set_append_right _ _ (by rw [c3p hn]; exact Nat.le_refl _), c3p hn, Nat.sub_self, List.set_cons_zero]
theorem d4h (hn : n ≤ o.length) (h0 : 0 < n) (hz : o[n - 1]? = some z) : (o.take n ++ w :: o.drop n).set n z = o.take (n - 1) ++ z :: o.drop (n - 1) := by
 rw [d0v hn]
 have e1 : o.take n = o.take (n - 1) ++ [z] := by
  have := p1p hz
  rwa [show n - 1 + 1 = n from by omega] at this
 have e2 : o.drop (n - 1) = z :: o.drop n := by
  have := q2q hz
  rwa [show n - 1 + 1 = n from by omega] at this
 rw [e1, e2]; simp
end
end
section
section
variable {α : Type} {ok : α → Bool} {lt : α → α → Bool}
theorem c6n : ∀ {l : List α} {o : Option α}, a7h ok lt o l = true → ∀ p ∈ l, ok p = true
 | [], _, _, p, hp => by cases hp
 | a :: r, o, h, p, hp => by
  simp only [a7h, Bool.and_eq_true] at h
  rcases List.mem_cons.1 hp with rfl | hp
  ·exact h.1.1
  ·exact c6n h.2 p hp
theorem a0x {l : List α} {most : Int} (h : a7i ok lt l most = true) : (l.length : Int) ≤ most ∧ ∀ p ∈ l, ok p = true := by
 simp only [a7i, Bool.and_eq_true, decide_eq_true_eq] at h
 exact ⟨h.1, c6n h.2⟩
end
theorem a3u {α β : Type} {f : α → List β} {k : Nat} : ∀ {l : List α}, (∀ a ∈ l, (f a).length ≤ k) → (l.flatMap f).length ≤ l.length * k
 | [], _ => by simp
 | a :: r, h => by
  have h1 := h a (List.mem_cons_self ..)
  have h2 := a3u (f := f) (k := k) (l := r) fun b hb => h b (List.mem_cons_of_mem _ hb)
  simp only [List.flatMap_cons, List.length_append, List.length_cons, Nat.add_mul, Nat.one_mul]
  omega
theorem a2i {l : La} (h : a6v l = true) : l.done.length ≤ 100 ∧ ∀ p ∈ l.done, p.sends.length ≤ 2 ∧ p.outs.length ≤ 2 := by
 simp only [a6v, Bool.and_eq_true] at h
 obtain ⟨h1, h2⟩ := a0x h.2
 refine ⟨by omega, fun p hp => ?_⟩
 have := h2 p hp
 simp only [b2t, Bool.and_eq_true] at this
 have a := (a0x this.1.2).1
 have b := (a0x this.2).1
 omega
theorem d2y {l : La} (h : a6v l = true) : (b1t l).length ≤ 200 := by
 obtain ⟨h1, h2⟩ := a2i h
 have := a3u (f := Pa.sends) (k := 2) (l := l.done) fun p hp => (h2 p hp).1
 simp only [b1t]; omega
theorem c5g {n : Nd} (hk : a7i okE a2b n.kept 100 = true) (hl : n.lanes.length ≤ 4) (ho : d2x n) : (a2u n).length ≤ 900 := by
 have h1 := (a0x hk).1
 have := a3u (f := b1t) (k := 200) (l := n.lanes) fun l hm => by
  obtain ⟨i, hi⟩ := List.getElem?_of_mem hm
  exact d2y (ho i l hi).2
 simp only [a2u, List.length_append]; omega
theorem c0z {n : Nd} (h3 : n.views.length = 3) (hk : n.known.length = 3) (hv : d2w n) : (a0q n 3).length ≤ 300 := by
 have := a3u (f := b3y n) (k := 100) (l := List.range 3) fun j hj => by
  rw [List.mem_range] at hj
  unfold b3y
  split
  ·simp
  ·obtain ⟨v, hv1⟩ : ∃ v, n.views[j]? = some v := ⟨_, List.getElem?_eq_getElem (by omega)⟩
   obtain ⟨k, hk1⟩ : ∃ k, n.known[j]? = some k := ⟨_, List.getElem?_eq_getElem (by omega)⟩
   have := (a0x (hv j v k hv1 hk1).1.2.2).1
   rw [List.getD_eq_getElem?_getD, hv1]
   simp only [Option.getD_some]; omega
 simpa [a0q] using this
def a0r (n : Nd) : Prop := a1v n ∧ ∀ (i : Nat) p l, (a1c n.id 4)[i]? = some p → n.lanes[i]? = some l → l.done.length ≤ same l.done (a0u n p) ∧ (a0u n p).length ≤ 100

theorem b7a : ∀ {l : List Ou} {o : Option Ou}, a7h okO a3c o l = true → ∀ (i j : Nat) a b, i ≤ j → l[i]? = some a → l[j]? = some b → a.time ≤ b.time
 | [], _, _, i, j, a, b, _, h, _ => by simp at h
 | x :: r, o, h, i, j, a, b, hij, ha, hb => by
  simp only [a7h, Bool.and_eq_true] at h
  have step : ∀ {r : List Ou} {x : Ou}, a7h okO a3c (some x) r = true → ∀ y, r[0]? = some y → x.time ≤ y.time := fun {r x} h y hy => by
   cases r with
   | nil => simp at hy
   | cons z r =>
    simp only [List.getElem?_cons_zero, Option.some.injEq] at hy
    subst hy
    simp only [a7h, Bool.and_eq_true] at h
    have := h.1.2
    rw [b0j, decide_eq_true_iff] at this
    unfold d1u at this
    omega
  cases j with
  | zero =>
   have : i = 0 := by omega
   subst this
   rw [ha] at hb; cases hb; omega
  | succ j =>
   cases i with
   | succ i => exact b7a h.2 i j a b (by omega) (by simpa using ha) (by simpa using hb)
   | zero =>
    simp only [List.getElem?_cons_zero, Option.some.injEq] at ha
    subst ha
    simp only [List.getElem?_cons_succ] at hb
    have hr : 0 < r.length := by have := (List.getElem?_eq_some_iff.1 hb).1; omega
    obtain ⟨y, hy⟩ : ∃ y, r[0]? = some y := ⟨_, List.getElem?_eq_getElem hr⟩
    have h1 := step h.2 y hy
    have h2 := b7a h.2 0 j y b (by omega) hy hb
    omega
theorem c3r {n : Nd} (ho : a7i okO a3c n.outs 96 = true) {o : Ou} (hl : n.outs[n.outs.length - 1]? = some o) (ht : o.time < n.g) : ∀ (i : Nat) a, n.outs[i]? = some a → a.time < n.g := fun i a ha => by
 have h1 := (List.getElem?_eq_some_iff.1 ha).1
 simp only [a7i, Bool.and_eq_true] at ho
 have := b7a ho.2 i (n.outs.length - 1) a o (by omega) ha hl
 omega
end
section
open Classical in
noncomputable def d8c (n : Nd) : Nd := if a0r n then { c3h n with up := false } else nd0
open Classical in
noncomputable def d8e (n : Nd) : Nd := if a0r n then (if n.up = true ∨ 9999 ≤ n.inc then n else { c3h n with up := true, inc := n.inc + 1, version := 1 }) else nd0
theorem b2v {α : Type} {sz : α → Nat} {k : Nat} : ∀ {l : List α}, (∀ a ∈ l, sz a ≤ k) → szs sz l ≤ l.length * k
 | [], _ => by simp [szs]
 | a :: r, h => by
  have h1 := h a (List.mem_cons_self ..)
  have h2 := b2v (sz := sz) (k := k) (l := r) fun b hb => h b (List.mem_cons_of_mem _ hb)
  simp only [szs, List.length_cons, Nat.add_mul, Nat.one_mul]
  omega
theorem d5t {l : List Pa} (h1 : l.length ≤ 100) (h2 : ∀ p ∈ l, p.sends.length ≤ 2 ∧ p.outs.length ≤ 2) : c0y l ≤ 500 := by
 have := b2v (sz := cPa) (k := 4) (l := l) fun p hp => by have := h2 p hp; simp only [cPa]; omega
 simp only [c0y]; omega
theorem s6s {n : Nd} (h : a1v n) : n.lanes.length ≤ 4 ∧ n.kept.length ≤ 100 ∧ n.outs.length ≤ 96 ∧ b4o n.lanes ≤ 2004 ∧ b9n n.views ≤ 303 ∧ cNd n ≤ 2606 := by
 obtain ⟨q1, q2, q3, q4, q5, q6, q7, q8, q9⟩ := h
 have hp := a5v n.id 4
 have hk := (a0x q2).1
 have ho := (a0x q3).1
 have hl : b4o n.lanes ≤ 2004 := by
  have := b2v (sz := cLa) (k := 500) (l := n.lanes) fun l hm => by
   obtain ⟨i, hi⟩ := List.getElem?_of_mem hm
   obtain ⟨g1, g2⟩ := a2i (q8 i l hi).2
   exact d5t g1 g2
  simp only [b4o]; omega
 have hv : b9n n.views ≤ 303 := by
  have := b2v (sz := cVi) (k := 100) (l := n.views) fun v hm => by
   obtain ⟨i, hi⟩ := List.getElem?_of_mem hm
   have hlt := (List.getElem?_eq_some_iff.1 hi).1
   obtain ⟨k, hk⟩ : ∃ k, n.known[i]? = some k := ⟨_, List.getElem?_eq_getElem (by omega)⟩
   have := (a0x (q9 i v k hi hk).1.2.2).1
   simp only [cVi]; omega
  simp only [b9n]; omega
 refine ⟨by omega, by omega, by omega, hl, hv, ?_⟩
 simp only [cNd]; omega
theorem b3z {n : Nd} (h : a1v n) : (a2u n).length + (a0q n 3).length ≤ 5000000 := by
 obtain ⟨q1, q2, q3, q4, q5, q6, q7, q8, q9⟩ := h
 have hp := a5v n.id 4
 have := c5g q2 (by omega) q8
 have := c0z q6 q7 q9
 omega

def b4a (l : La) (f t : Nat) : La := ⟨l.proc, l.base, (l.done.take t).drop f⟩
theorem c5h (l : La) : b4a l 0 l.done.length = l := by simp [b4a]
theorem d0w {α : Type} {l : List α} {f i t : Nat} (h1 : f ≤ i) (h2 : i = f ∨ (i ≤ t ∧ i ≤ l.length)) (h3 : ¬ (i < t ∧ i < l.length)) : (l.take i).drop f = (l.take t).drop f := by
 rcases h2 with rfl | ⟨h4, h5⟩
 ·rw [List.drop_of_length_le (by rw [List.length_take]; omega)]
  by_cases h : i < t
  ·rw [List.drop_of_length_le (by rw [List.length_take]; omega)]
  ·rw [List.drop_of_length_le (by rw [List.length_take]; omega)]
 ·by_cases h : i = t
  ·rw [h]
  ·rw [List.take_of_length_le (by omega), List.take_of_length_le (by omega)]

def lb (l : La) : Prop := l.done.length ≤ 1000000 ∧ ∀ p ∈ l.done, p.sends.length ≤ 1000000 ∧ p.outs.length ≤ 1000000
theorem d7p {l : La} (h : a6v l = true) : lb l := by
 obtain ⟨h1, h2⟩ := a2i h
 exact ⟨by omega, fun p hp => by have := h2 p hp; omega⟩
theorem d4i (n : Nd) : zNd n ≤ 20 * cNd n := by
 have e1 : ∀ l : List Ev, szs zEv l = 7 * l.length := fun l => by
  induction l with
  | nil => rfl
  | cons a r ih => simp only [szs, ih, List.length_cons, zEv]; omega
 have e2 : ∀ l : List Ou, szs zOu l = 5 * l.length := fun l => by
  induction l with
  | nil => rfl
  | cons a r ih => simp only [szs, ih, List.length_cons, zOu]; omega
 have e3 : ∀ l : List Int, szs zI l = l.length := fun l => by
  induction l with
  | nil => rfl
  | cons a r ih => simp only [szs, ih, List.length_cons, zI]; omega
 have e4 : ∀ l : List Pa, szs zPa l ≤ 10 * c0y l := fun l => by
  induction l with
  | nil => simp [szs, c0y]
  | cons a r ih => simp only [szs, c0y, List.length_cons, zPa, cPa, e1, e2] at ih ⊢; omega
 have e5 : ∀ l : List La, szs zLa l ≤ 20 * b4o l := fun l => by
  induction l with
  | nil => simp [szs, b4o]
  | cons a r ih => have := e4 a.done; simp only [szs, b4o, List.length_cons, zLa, cLa] at ih ⊢; omega
 have e6 : ∀ l : List Vi, szs zVi l ≤ 20 * b9n l := fun l => by
  induction l with
  | nil => simp [szs, b9n]
  | cons a r ih => simp only [szs, b9n, List.length_cons, zVi, cVi, e1] at ih ⊢; omega
 have := e5 n.lanes
 have := e6 n.views
 simp only [zNd, cNd, e1, e2, e3]; omega

def nb (n : Nd) : Prop := n.lanes.length ≤ 1000000 ∧ n.kept.length ≤ 1000000 ∧ n.outs.length ≤ 1000000 ∧ (∀ l ∈ n.lanes, lb l) ∧ n.views.length ≤ 1000000 ∧ (∀ v ∈ n.views, v.events.length ≤ 1000000) ∧ n.known.length ≤ 1000000
theorem d7q {n : Nd} (h : a1v n) : nb n := by
 have hb := s6s h
 obtain ⟨q1, q2, q3, q4, q5, q6, q7, q8, q9⟩ := h
 refine ⟨by omega, by omega, by omega, fun l hm => ?_, by omega, fun v hm => ?_, by omega⟩
 ·obtain ⟨i, hi⟩ := List.getElem?_of_mem hm
  exact d7p (q8 i l hi).2
 ·obtain ⟨i, hi⟩ := List.getElem?_of_mem hm
  have hlt := (List.getElem?_eq_some_iff.1 hi).1
  obtain ⟨k, hk⟩ : ∃ k, n.known[i]? = some k := ⟨_, List.getElem?_eq_getElem (by omega)⟩
  have := (a0x (q9 i v k hi hk).1.2.2).1
  omega
end
section
structure Wo where
 kind : Int
 from' : Int
 to : Int
 inc : Int
 version : Int
 round : Int
 g : Int
 incs : List Int
 versions : List Int
 events : List Ev
 outs : List Ou
 deriving DecidableEq, Inhabited
def wo0 : Wo := ⟨0, 0, 0, 0, 0, 0, 0, [], [], [], []⟩
def zWo (w : Wo) : Nat := 7 + szs zI w.incs + szs zI w.versions + szs zEv w.events + szs zOu w.outs
def kWo (k : Nat) (w : Wo) : Wo := ⟨(k : Int), (k + 1 : Nat), (k + 1 + 1 : Nat), (k + 1 + 1 + 1 : Nat), (k + 1 + 1 + 1 + 1 : Nat), (k + 1 + 1 + 1 + 1 + 1 : Nat), (k + 1 + 1 + 1 + 1 + 1 + 1 : Nat), mks zI kI (k + 7) w.incs, mks zI kI (k + 7 + szs zI w.incs) w.versions, mks zEv kEv (k + 7 + szs zI w.incs + szs zI w.versions) w.events, mks zOu kOu (k + 7 + szs zI w.incs + szs zI w.versions + szs zEv w.events) w.outs⟩

def zWl (w : Wo) : Nat := szs zI w.incs + szs zI w.versions + szs zEv w.events + szs zOu w.outs
def kWl (k : Nat) (w : Wo) : Wo := { w with incs := mks zI kI k w.incs, versions := mks zI kI (k + szs zI w.incs) w.versions, events := mks zEv kEv (k + szs zI w.incs + szs zI w.versions) w.events, outs := mks zOu kOu (k + szs zI w.incs + szs zI w.versions + szs zEv w.events) w.outs }
def d8t (n : Nd) (to : Int) (e : Ev) : Bool := decide (a3k e.to = to ∧ n.known.getD to.toNat 0 ≤ e.time)
def e0v (to kn : Int) (e : Ev) : Bool := decide (a3k e.to = to ∧ kn ≤ e.time)
def d7r (n : Nd) (to : Int) : List Ev := q8q ((a2u n).filter (d8t n to))
def d7s (n : Nd) (to : Int) : Wo := ⟨1, n.id, to, n.inc, n.version, 0, n.g, [], [], d7r n to, []⟩
def d8u (n : Nd) : Wo := ⟨7, n.id, 0, 0, 0, 0, n.g, [], [], [], n.outs⟩
def c6o (n : Nd) : Nat → List Wo
 | 0 => []
 | k + 1 => if (k : Int) = n.id then c6o n k else c6o n k ++ [d7s n (k : Int)]
open Classical in
noncomputable def e0w (n : Nd) : List Wo := if a0r n ∧ n.up = true then (if n.id = 0 then c6o n 3 else c6o n 3 ++ [d8u n]) else []
end
section
theorem c6p {α : Type} {ok : α → Bool} {lt : α → α → Bool} (O : STO lt) : ∀ {l : List α} {o : Option α}, a7h ok lt o l = true ↔ (∀ a ∈ l, ok a = true) ∧ SS lt l ∧ ∀ b, o = some b → ∀ a ∈ l, lt b a = true
 | [], o => by simp [a7h, SS]
 | a :: r, o => by
  have e : a7h ok lt o (a :: r) = (ok a && (match o with | none => true | some b => lt b a) && a7h ok lt (some a) r) := by cases o <;> rfl
  rw [e, Bool.and_eq_true, Bool.and_eq_true, c6p O]
  constructor
  ·rintro ⟨⟨h1, h2⟩, h3, h4, h5⟩
   refine ⟨fun x hx => ?_, List.pairwise_cons.2 ⟨h5 a rfl, h4⟩, fun b hb x hx => ?_⟩
   ·rcases List.mem_cons.1 hx with rfl | hx
    ·exact h1
    ·exact h3 x hx
   ·subst hb
    rcases List.mem_cons.1 hx with rfl | hx
    ·exact h2
    ·exact O.trans _ _ _ h2 (h5 a rfl x hx)
  ·rintro ⟨h1, h2, h3⟩
   obtain ⟨h4, h5⟩ := List.pairwise_cons.1 h2
   refine ⟨⟨h1 a (List.mem_cons_self ..), ?_⟩, fun x hx => h1 x (List.mem_cons_of_mem _ hx), h5, fun b hb => by cases hb; exact h4⟩
   cases o with
   | none => rfl
   | some b => exact h3 b rfl a (List.mem_cons_self ..)
theorem d2z {α : Type} {ok : α → Bool} {lt : α → α → Bool} (O : STO lt) {l : List α} {most : Int} : a7i ok lt l most = true ↔ (l.length : Int) ≤ most ∧ (∀ a ∈ l, ok a = true) ∧ SS lt l := by
 rw [a7i, Bool.and_eq_true, decide_eq_true_eq, c6p O]
 exact ⟨fun h => ⟨h.1, h.2.1, h.2.2.1⟩, fun h => ⟨h.1, h.2.1, h.2.2, fun b hb => by cases hb⟩⟩
theorem d3a {n : Nd} (h : a1v n) {e : Ev} (he : e ∈ a2u n) : okE e = true := by
 obtain ⟨q1, q2, q3, q4, q5, q6, q7, q8, q9⟩ := h
 rcases List.mem_append.1 he with he | he
 ·exact (a0x q2).2 e he
 ·obtain ⟨l, hl, he⟩ := List.mem_flatMap.1 he
  obtain ⟨p, hp, he⟩ := List.mem_flatMap.1 he
  obtain ⟨i, hi⟩ := List.getElem?_of_mem hl
  have h1 := (q8 i l hi).2
  simp only [a6v, Bool.and_eq_true] at h1
  have h2 := (a0x h1.2).2 p hp
  simp only [b2t, Bool.and_eq_true] at h2
  exact (a0x h2.1.2).2 e he
theorem d0x {n : Nd} (h : a1v n) {e : Ev} (he : e ∈ a0q n 3) : okE e = true := by
 obtain ⟨q1, q2, q3, q4, q5, q6, q7, q8, q9⟩ := h
 obtain ⟨j, hj, he⟩ := List.mem_flatMap.1 he
 rw [List.mem_range] at hj
 unfold b3y at he
 split at he
 ·cases he
 ·obtain ⟨v, hv⟩ : ∃ v, n.views[j]? = some v := ⟨_, List.getElem?_eq_getElem (by omega)⟩
  obtain ⟨k, hk⟩ : ∃ k, n.known[j]? = some k := ⟨_, List.getElem?_eq_getElem (by omega)⟩
  rw [List.getD_eq_getElem?_getD, hv] at he
  exact (a0x (q9 j v k hv hk).1.2.2).2 e he
theorem c6q {n : Nd} {p : Int} {e : Ev} : e ∈ a0u n p ↔ (e ∈ a2u n ∨ e ∈ a0q n 3) ∧ e.to = p ∧ n.g ≤ e.time := by
 unfold a0u q8q
 rw [b0i, List.mem_filter, List.mem_append]
 simp [a5x]

def a9s (l : La) (s : List Ev) : Prop := a7i okE a2b s 100 = true ∧ ∀ e ∈ s, e.to = l.proc
theorem d0y {n : Nd} (h : a1v n) {l : La} (hc : (a0u n l.proc).length ≤ 100) : a9s l (a0u n l.proc) := by
 refine ⟨(d2z c3g).2 ⟨by omega, fun e he => ?_, b2u _⟩, fun e he => ?_⟩
 ·rcases (c6q.1 he).1 with h1 | h1
  ·exact d3a h h1
  ·exact d0x h h1
 ·exact (c6q.1 he).2.1
def ev0 : Ev := ⟨0, 0, 0, 0, 0, 0, 0⟩

def a2f (l : La) (s : List Ev) : Ev × Bool := if same l.done s < l.done.length then (ev0, false) else match s[same l.done s]? with
 | some e => (e, true)
 | none => (ev0, false)
theorem d0z {l : La} {s : List Ev} (h : same l.done s < l.done.length) : a2f l s = (ev0, false) := if_pos h
theorem d1a {l : La} {s : List Ev} (h2 : s.length ≤ same l.done s) : a2f l s = (ev0, false) := by
 unfold a2f
 split
 ·rfl
 ·rw [List.getElem?_eq_none h2]
theorem d1b {l : La} {s : List Ev} {e : Ev} (h : ¬ same l.done s < l.done.length) (h2 : s[same l.done s]? = some e) : a2f l s = (e, true) := by unfold a2f; rw [if_neg h, h2]
theorem c1a : ∀ (d : List Pa) (s : List Ev), same d s ≤ s.length ∧ same d s ≤ d.length
 | [], s => by cases s <;> simp [same]
 | _ :: _, [] => by simp [same]
 | p :: d, e :: s => by
  have := c1a d s
  simp only [same]
  split
  ·simp only [List.length_cons]; omega
  ·simp
open Classical in
noncomputable def b8g (l : La) (s : List Ev) : Ev × Bool := if a6v l = true ∧ a9s l s then a2f l s else (ev0, false)
theorem c1b {l : La} {s : List Ev} (h : a6v l = true ∧ a9s l s) : b8g l s = a2f l s := if_pos h
theorem d1c {l : La} {s : List Ev} (h : ¬ (a6v l = true ∧ a9s l s)) : b8g l s = (ev0, false) := if_neg h

def a8p (n : Nd) : Nat → Int
 | 0 => 41
 | k + 1 => match n.lanes[k]? with
  | some l => if (a2f l (a0u n l.proc)).2 = true ∧ (a2f l (a0u n l.proc)).1.time < a8p n k then (a2f l (a0u n l.proc)).1.time else a8p n k
  | none => a8p n k
theorem d1e {n : Nd} {k : Nat} {l : La} (h : n.lanes[k]? = some l) (h2 : (a2f l (a0u n l.proc)).2 = true ∧ (a2f l (a0u n l.proc)).1.time < a8p n k) : a8p n (k + 1) = (a2f l (a0u n l.proc)).1.time := by
 show (match n.lanes[k]? with | some l => _ | none => _) = _
 rw [h]; exact if_pos h2
theorem c1d {n : Nd} {k : Nat} {l : La} (h : n.lanes[k]? = some l) (h2 : ¬ ((a2f l (a0u n l.proc)).2 = true ∧ (a2f l (a0u n l.proc)).1.time < a8p n k)) : a8p n (k + 1) = a8p n k := by
 show (match n.lanes[k]? with | some l => _ | none => _) = _
 rw [h]; exact if_neg h2
def d6m (n : Nd) : Int := a8p n n.lanes.length
open Classical in
noncomputable def c1e (n : Nd) : Int := if a0r n then d6m n else 0
theorem c3s {n : Nd} (h : a0r n) : c1e n = d6m n := if_pos h
theorem d1f {n : Nd} (h : ¬ a0r n) : c1e n = 0 := if_neg h

theorem c3t {n : Nd} (h : a0r n) {i : Nat} {l : La} (hl : n.lanes[i]? = some l) : (a1c n.id 4)[i]? = some l.proc ∧ a6v l = true ∧ a9s l (a0u n l.proc) ∧ l.done.length ≤ same l.done (a0u n l.proc) := by
 obtain ⟨h1, h2⟩ := h.1.2.2.2.2.2.2.2.1 i l hl
 obtain ⟨h3, h4⟩ := h.2 i l.proc l h1 hl
 exact ⟨h1, h2, d0y h.1 h4, h3⟩
def e0x (n : Nd) (r : Int) : Wo := ⟨3, n.id, 0, n.inc, 0, r, d6m n, n.views.map Vi.inc, n.views.map Vi.version, [], []⟩
open Classical in
noncomputable def d6n (n : Nd) (r : Int) : Nd × Wo × Bool := if a0r n then (if n.up = true ∧ n.round + 1 ≤ r ∧ r ≤ 9999 then ({ n with round := r, low := 41 }, e0x n r, true) else (n, wo0, false)) else (nd0, wo0, false)
end
section
section
variable {α : Type} {lt : α → α → Bool}
theorem b9q {x : α} : ∀ {a b : List α}, (∀ y ∈ a, lt x y = false) → (∀ y ∈ b, lt x y = true) → c6h lt x (a ++ b) = a ++ x :: b
 | [], [], _, _ => rfl
 | [], y :: b, _, hb => by
  have h := hb y (List.mem_cons_self ..)
  simp only [List.nil_append, c6h, h, if_true]
 | y :: a, b, ha, hb => by
  have h := ha y (List.mem_cons_self ..)
  simp only [List.cons_append, c6h, h, Bool.false_eq_true, if_false]
  rw [b9q (fun z hz => ha z (List.mem_cons_of_mem _ hz)) hb]
theorem d5u (O : STO lt) {x : α} {o : List α} {k : Nat} (h : WS lt o) (hk : ∀ (j : Nat) y, k ≤ j → o[j]? = some y → lt x y = true) (hl : ∀ y, 0 < k → o[k - 1]? = some y → lt x y = false) (hk2 : k ≤ o.length) : c6h lt x o = o.take k ++ x :: o.drop k := by
 conv => lhs; rw [← List.take_append_drop k o]
 refine b9q (fun y hy => ?_) (fun y hy => ?_)
 ·obtain ⟨j, hj⟩ := List.getElem?_of_mem hy
  rw [List.getElem?_take] at hj
  split at hj
  ·rename_i hjk
   have hkl : k - 1 < o.length := by omega
   obtain ⟨z, hz⟩ : ∃ z, o[k - 1]? = some z := ⟨_, List.getElem?_eq_getElem hkl⟩
   have q1 := hl z (by omega) hz
   by_cases e : j = k - 1
   ·subst e; rw [hj] at hz; cases hz; exact q1
   ·have hzy : lt z y = false := by
     obtain ⟨p1, rfl⟩ := List.getElem?_eq_some_iff.1 hj
     obtain ⟨p2, rfl⟩ := List.getElem?_eq_some_iff.1 hz
     exact List.pairwise_iff_getElem.1 h j (k - 1) p1 p2 (by omega)
    cases hxy : lt x y with
    | false => rfl
    | true =>
     by_cases ez : y = z
     ·subst ez; rw [q1] at hxy; cases hxy
     ·rcases O.tot _ _ ez with h1 | h1
      ·have := O.trans _ _ _ hxy h1
       rw [q1] at this; cases this
      ·rw [hzy] at h1; cases h1
  ·cases hj
 ·obtain ⟨j, hj⟩ := List.getElem?_of_mem hy
  rw [List.getElem?_drop] at hj
  exact hk (k + j) y (by omega) hj
end
theorem c5i {l : List Ou} {i : Nat} {x : Ou} (h : l[i]? = some x) : a1y (l.take (i + 1)) = c6h a3c x (a1y (l.take i)) := by rw [p1p h]; simp [a1y, d0f]
theorem d1g (l : List Ou) : WS a3c (a1y l) := c0u d5r l
theorem b9r (l : List Ou) : (a1y l).length = l.length := (a9q l).length_eq

def b8h (u : Int) : List Pa → Nat
 | [] => 0
 | p :: d => if p.ev.time < u then b8h u d + 1 else 0
theorem b7c {u : Int} : ∀ {d : List Pa} {i : Nat}, i ≤ d.length → (∀ (j : Nat) p, j < i → d[j]? = some p → p.ev.time < u) → (∀ p, d[i]? = some p → ¬ p.ev.time < u) → b8h u d = i
 | [], i, h, _, _ => by simp at h; subst h; rfl
 | p :: d, 0, _, _, h3 => by unfold b8h; rw [if_neg (h3 p rfl)]
 | p :: d, i + 1, h1, h2, h3 => by
  unfold b8h
  rw [if_pos (h2 0 p (by omega) rfl), b7c (d := d) (i := i) (by simp at h1; omega) (fun j q hj hq => h2 (j + 1) q (by omega) hq) (fun q hq => h3 q hq)]
theorem b7d (u : Int) : ∀ d : List Pa, b8h u d ≤ d.length
 | [] => Nat.le_refl _
 | p :: d => by
  have := b7d u d
  unfold b8h
  split
  ·simp only [List.length_cons]; omega
  ·omega
def a8w (l : La) : Nat → St
 | 0 => l.base
 | k + 1 => match l.done[k]? with
  | some p => p.after
  | none => a8w l k
theorem b7e {l : La} {k : Nat} {p : Pa} (h : l.done[k]? = some p) : a8w l (k + 1) = p.after := by
 show (match l.done[k]? with | some p => p.after | none => a8w l k) = _
 rw [h]

def a9e (u : Int) (l : La) : La := ⟨l.proc, a8w l (b8h u l.done), l.done.drop (b8h u l.done)⟩
def b2w (u : Int) (l : La) : List Ev := q8q ((l.done.take (b8h u l.done)).flatMap Pa.sends)
def b4r (u : Int) (l : La) : List Ou := a1y ((l.done.take (b8h u l.done)).flatMap Pa.outs)
theorem a3m {α β : Type} {f : α → List β} {m i : Nat} {d : List α} (hi : i ≤ d.length) (h : ∀ p ∈ d, (f p).length ≤ m) : ((d.take i).flatMap f).length ≤ i * m := by
 have := a3u (f := f) (k := m) (l := d.take i) fun a ha => h a (List.mem_of_mem_take ha)
 rw [List.length_take, Nat.min_eq_left hi] at this
 exact this
theorem d3b {u : Int} {l : La} (h : a6v l = true) : (b2w u l).length ≤ 200 := by
 obtain ⟨h1, h2⟩ := a2i h
 have := a3m (f := Pa.sends) (m := 2) (b7d u l.done) fun p hp => (h2 p hp).1
 have h3 := b6z ((l.done.take (b8h u l.done)).flatMap Pa.sends)
 have h4 := b7d u l.done
 unfold b2w
 omega
theorem d3c {u : Int} {l : La} (h : a6v l = true) : (b4r u l).length ≤ 200 := by
 obtain ⟨h1, h2⟩ := a2i h
 have := a3m (f := Pa.outs) (m := 2) (b7d u l.done) fun p hp => (h2 p hp).2
 have h4 := b7d u l.done
 unfold b4r
 rw [b9r]
 omega
theorem d3e {u : Int} {l : La} (h : a6v l = true) {e : Ev} (he : e ∈ b2w u l) : okE e = true := by
 unfold b2w q8q at he
 rw [b0i, List.mem_flatMap] at he
 obtain ⟨p, hp, he⟩ := he
 simp only [a6v, Bool.and_eq_true] at h
 have h2 := (a0x h.2).2 p (List.mem_of_mem_take hp)
 simp only [b2t, Bool.and_eq_true] at h2
 exact (a0x h2.1.2).2 e he

def a9f (u : Int) (ls : List La) (i : Nat) : List La := (ls.take i).map (a9e u) ++ ls.drop i
theorem b4c (u : Int) (ls : List La) : a9f u ls 0 = ls := by simp [a9f]
theorem b7f (u : Int) (ls : List La) : a9f u ls ls.length = ls.map (a9e u) := by simp [a9f]
theorem c3u (u : Int) (ls : List La) {i : Nat} (h : i ≤ ls.length) : (a9f u ls i).length = ls.length := by simp [a9f]; omega
theorem b5k {u : Int} {ls : List La} {i : Nat} {l : La} (h : ls[i]? = some l) : (a9f u ls i)[i]? = some l := by
 have hlt := (List.getElem?_eq_some_iff.1 h).1
 unfold a9f
 rw [List.getElem?_append_right (by rw [List.length_map, List.length_take]; omega), List.length_map, List.length_take, List.getElem?_drop, Nat.min_eq_left (by omega)]
 simpa using h
theorem b7g {u : Int} {ls : List La} {i : Nat} {l : La} (h : ls[i]? = some l) : (a9f u ls i).set i (a9e u l) = a9f u ls (i + 1) := by
 have hlt := (List.getElem?_eq_some_iff.1 h).1
 have hl : ((ls.take i).map (a9e u)).length = i := by rw [List.length_map, List.length_take]; omega
 unfold a9f
 rw [q2q h, List.set_append_right _ _ (by omega), hl, Nat.sub_self, List.set_cons_zero, p1p h, List.map_append, List.append_assoc]
 rfl
def a1q (n : Nd) (g : Int) (i : Nat) : List Ev := n.kept ++ (n.lanes.take i).flatMap (b2w g)
def a6q (n : Nd) (g : Int) (i : Nat) : List Ou := n.outs ++ (n.lanes.take i).flatMap (b4r g)
theorem a8q {n : Nd} {g : Int} {i : Nat} {l : La} (h : n.lanes[i]? = some l) : a1q n g (i + 1) = a1q n g i ++ b2w g l := by
 rw [a1q, a2v h, ← List.append_assoc]; rfl
theorem a8r {n : Nd} {g : Int} {i : Nat} {l : La} (h : n.lanes[i]? = some l) : a6q n g (i + 1) = a6q n g i ++ b4r g l := by
 rw [a6q, a2v h, ← List.append_assoc]; rfl
theorem b7h (n : Nd) (g : Int) : a1q n g 0 = n.kept := by simp [a1q]
theorem b7i (n : Nd) (g : Int) : a6q n g 0 = n.outs := by simp [a6q]
theorem b7j {n : Nd} (h : a1v n) : ∀ l ∈ n.lanes, a6v l = true := fun l hl => by
 obtain ⟨i, hi⟩ := List.getElem?_of_mem hl
 exact (h.2.2.2.2.2.2.2.1 i l hi).2
theorem b2x {n : Nd} (h : a1v n) (g : Int) (i : Nat) : (a1q n g i).length ≤ 900 := by
 have hb := s6s h
 have := a3u (f := b2w g) (k := 200) (l := n.lanes.take i) fun l hl => d3b (b7j h l (List.mem_of_mem_take hl))
 rw [List.length_take] at this
 have h3 : min i n.lanes.length ≤ 4 := by omega
 have h4 : min i n.lanes.length * 200 ≤ 4 * 200 := Nat.mul_le_mul_right _ h3
 simp only [a1q, List.length_append]; omega
theorem b2y {n : Nd} (h : a1v n) (g : Int) (i : Nat) : (a6q n g i).length ≤ 900 := by
 have hb := s6s h
 have := a3u (f := b4r g) (k := 200) (l := n.lanes.take i) fun l hl => d3c (b7j h l (List.mem_of_mem_take hl))
 rw [List.length_take] at this
 have h3 : min i n.lanes.length ≤ 4 := by omega
 have h4 : min i n.lanes.length * 200 ≤ 4 * 200 := Nat.mul_le_mul_right _ h3
 simp only [a6q, List.length_append]; omega
theorem c3v {n : Nd} (h : a1v n) {g : Int} {i : Nat} {e : Ev} (he : e ∈ a1q n g i) : okE e = true := by
 rcases List.mem_append.1 he with he | he
 ·exact (a0x h.2.1).2 e he
 ·obtain ⟨l, hl, he⟩ := List.mem_flatMap.1 he
  exact d3e (b7j h l (List.mem_of_mem_take hl)) he
def c6r (n : Nd) (g : Int) : List La := n.lanes.map (a9e g)

def a9t (kn : List Int) (e : Ev) : Bool := decide (kn.getD (a3k e.to).toNat 0 ≤ e.time)
theorem c6s {kn : List Int} {e : Ev} (h : okE e = true) (h3 : kn.length = 3) : ∃ (k : Nat) (v : Int), a3k e.to = (k : Int) ∧ kn[k]? = some v ∧ a9t kn e = decide (v ≤ e.time) := by
 have hb : 0 ≤ e.to ∧ e.to ≤ 3 := by
  have h' : b6x e := of_decide_eq_true h
  exact h'.2.1
 have hn : a3k e.to = e.to.tmod 3 := if_pos hb
 have ht : 0 ≤ e.to.tmod 3 ∧ e.to.tmod 3 < 3 := by
  have : e.to = 0 ∨ e.to = 1 ∨ e.to = 2 ∨ e.to = 3 := by omega
  rcases this with h | h | h | h <;> rw [h] <;> decide
 obtain ⟨v, hv⟩ : ∃ v, kn[(a3k e.to).toNat]? = some v := ⟨_, List.getElem?_eq_getElem (by rw [hn]; omega)⟩
 refine ⟨(a3k e.to).toNat, v, by rw [hn]; omega, hv, ?_⟩
 unfold a9t
 rw [List.getD_eq_getElem?_getD, hv]; rfl
theorem d5v {n : Nd} {g : Int} {i : Nat} {l : La} (h : (c6r n g)[i]? = some l) : ∃ l0, n.lanes[i]? = some l0 ∧ l = a9e g l0 := by
 unfold c6r at h
 rw [List.getElem?_map] at h
 cases h2 : n.lanes[i]? with
 | none => rw [h2] at h; cases h
 | some l0 => rw [h2] at h; cases h; exact ⟨l0, rfl, rfl⟩
theorem c1f (p : Ev → Bool) (l : List Ev) : q8q (l.filter p) = (q8q l).filter p := by
 refine SS.uniq c3g (b2u _) (List.Pairwise.filter p (b2u l)) fun e => ?_
 unfold q8q
 rw [b0i, List.mem_filter, List.mem_filter, b0i]
def r7r (n : Nd) (g : Int) : Nd := { n with g := g, lanes := n.lanes.map (a9e g), kept := q8q ((a1q n g n.lanes.length).filter (a9t (n.known.set n.id.toNat g))), outs := a1y (a6q n g n.lanes.length), known := n.known.set n.id.toNat g }
def a0h (n : Nd) (r g : Int) : Prop := n.up = true ∧ 1 ≤ r ∧ r = n.round ∧ n.g + 1 ≤ g ∧ g ≤ 41 ∧ g ≤ n.low ∧ g ≤ d6m n ∧ n.version < 9999
open Classical in
noncomputable def s7s (n n' : Nd) : Nd × Bool := if a0r n' then (n', true) else (n, false)
theorem c3w {n n' : Nd} (h : a0r n') : s7s n n' = (n', true) := if_pos h
theorem c3x {n n' : Nd} (h : ¬ a0r n') : s7s n n' = (n, false) := if_neg h
open Classical in
noncomputable def v7v (n : Nd) (r g : Int) : Nd × Bool := if a0r n then (if a0h n r g then s7s n (r7r n g) else (n, false)) else (nd0, false)
theorem c6t {n : Nd} {r g : Int} (h : ¬ a0r n) : v7v n r g = (nd0, false) := if_neg h
theorem a1m {n : Nd} {r g : Int} (h : a0r n) (h2 : ¬ a0h n r g) : v7v n r g = (n, false) := by unfold v7v; rw [if_pos h, if_neg h2]
theorem c1g {n : Nd} {r g : Int} (h : a0r n) (h2 : a0h n r g) : v7v n r g = s7s n (r7r n g) := by unfold v7v; rw [if_pos h, if_pos h2]
theorem c3y {n n' : Nd} (h : a0r n) : cNd (s7s n n').1 ≤ 3000 := by
 unfold s7s
 split
 ·rename_i h2; have := s6s h2.1; show cNd n' ≤ 3000; omega
 ·have := s6s h.1; show cNd n ≤ 3000; omega
theorem c3z (n : Nd) (r g : Int) : cNd (v7v n r g).1 ≤ 3000 := by
 unfold v7v
 split
 ·rename_i h
  split
  ·exact c3y h
  ·have := s6s h.1; show cNd n ≤ 3000; omega
 ·show cNd nd0 ≤ 3000; decide
theorem d4j {n : Nd} (h : a1v n) : ∃ k : Nat, n.id = (k : Int) ∧ k < 3 ∧ n.id.toNat = k := by
 have := h.1
 simp only [a5w] at this
 exact ⟨n.id.toNat, by omega, by omega, rfl⟩
theorem b9s {α β : Type} {f : α → β} (l : List α) (i : Nat) : (l.take ((l.map f).length : Int).toNat).drop (i : Int).toNat = l.drop i := by simp
end
section
def a2w (p : Int) : List AV := [.pv (.int .i64 p)]
def e0y (p : Nat) : List AV := [.pv (.int .u8 (p : Int))]
def w0w (e : Ev) : List AV := (evN e).map pI
def r0r (o : Ou) : List AV := (ouL o).map pI
def a0b (s : St) : List AV := (stL s).map pI
theorem d5w (a b : Ev) : (evN a == evN b) = decide (a = b) := by
 rw [Bool.eq_iff_iff]
 cases a; cases b
 simp [evN]
theorem d8v (x y : Operand) (a b : Ev) : EqA Tryz.prog 76 x y (.agg (w0w a)) (.agg (w0w b)) (decide (a = b)) := by
 rw [← d5w]; exact d2k Tryz.underlying76 (by kernel_rfl) (by kernel_rfl) (by kernel_rfl) x y (evN a) (evN b) rfl rfl
def a4i (c : Bool) (l : List Int) : AV := .row (.rd c) 3 1 (l.map a2w)
def d9l (c : Bool) (l : List Nat) : AV := .row (.rd c) 5 1 (l.map e0y)
def a0i (c : Bool) (l : List Ev) : AV := .row (.rd c) 76 7 (l.map w0w)
def a0z (c : Bool) (l : List Ou) : AV := .row (.rd c) 104 5 (l.map r0r)
def a2j (c : Bool) (p : Pa) : List AV := w0w p.ev ++ (a0b p.after ++ [a0i c p.sends, a0z c p.outs])
def a4j (c : Bool) (l : List Pa) : AV := .row (.rd c) 78 12 (l.map (a2j c))
def a0m (c : Bool) (a : La) : List AV := pI a.proc :: (a0b a.base ++ [a4j c a.done])
def c1h (c : Bool) (l : List La) : AV := .row (.rd c) 65 5 (l.map (a0m c))
def a2n (c : Bool) (v : Vi) : List AV := [pI v.inc, pI v.version, a0i c v.events]
def c1i (c : Bool) (l : List Vi) : AV := .row (.rd c) 141 3 (l.map (a2n c))
def a1d (c : Bool) (n : Nd) : List AV := [pI n.id, .pv (.bool n.up), pI n.inc, pI n.g, c1h c n.lanes, a0i c n.kept, a0z c n.outs, pI n.led, pI n.version, c1i c n.views, a4i c n.known, pI n.round, pI n.low]
def a2l (p : Pa) : List AV := w0w p.ev ++ (a0b p.after ++ [.row .ow 76 7 (p.sends.map w0w), .row .ow 104 5 (p.outs.map r0r)])
def a1i (a : La) : List AV := pI a.proc :: (a0b a.base ++ [.row .ow 78 12 (a.done.map a2l)])
def a1j (v : Vi) : List AV := [pI v.inc, pI v.version, .row .ow 76 7 (v.events.map w0w)]
def c6u : List AV := [pI 0, pI 0, .pv (.slice none 0 0)]
theorem c7t {k c : Bool} (hc : c = true → k = true) (p : Pa) : LeL k (a2l p) (a2j c p) :=
 .cons (.cl rfl) (.cons (.cl rfl) (.cons (.cl rfl) (.cons (.cl rfl) (.cons (.cl rfl) (.cons (.cl rfl) (.cons (.cl rfl) (.cons (.cl rfl) (.cons (.cl rfl) (.cons (.cl rfl) (.cons (Le.ow_map _ hc (fun _ => rfl)) (.cons (Le.ow_map _ hc (fun _ => rfl)) .nil)))))))))))
theorem c7u {k c : Bool} (hc : c = true → k = true) (a : La) : LeL k (a1i a) (a0m c a) :=
 .cons (.cl rfl) (.cons (.cl rfl) (.cons (.cl rfl) (.cons (.cl rfl) (.cons (Le.ow_map2 _ hc (c7t hc)) .nil))))
theorem c7v {k c : Bool} (hc : c = true → k = true) (v : Vi) : LeL k (a1j v) (a2n c v) := .cons (.cl rfl) (.cons (.cl rfl) (.cons (Le.ow_map _ hc (fun _ => rfl)) .nil))
theorem nf {k : Bool} : false = true → k = true := fun h => by cases h
theorem LendL.cls {h : Hp} : ∀ {cs : List AV}, (cs.all AV.cl) = true → LendL h cs cs []
 | [], _ => .nil
 | a :: cs, hc => by rw [List.all_cons, Bool.and_eq_true] at hc; exact .cl hc.1 (LendL.cls hc.2)
theorem d3f {h : Hp} {cs ls bs : List AV} {T : TL} (h1 : (cs.all AV.one) = true) (hc : (cs.all AV.cl) = true) (t : LendL h ls bs T) : LendL h (.agg cs :: ls) (.agg cs :: bs) T := .agg h1 (.cls hc) t
theorem b0w {h : Hp} {n : Nd} {i0 i1 i2 i3 i4 g0 g1 g2 g3 g4 : Nat} {ls bs : List AV} {T : TL} (h0 : v1v h i0 = some (g0, .row 65 5 (n.lanes.map a1i))) (h1 : v1v h i1 = some (g1, .row 76 7 (n.kept.map w0w))) (h2 : v1v h i2 = some (g2, .row 104 5 (n.outs.map r0r))) (h3 : v1v h i3 = some (g3, .row 141 3 (n.views.map a1j))) (h4 : v1v h i4 = some (g4, .row 3 1 (n.known.map a2w))) (t : LendL h ls bs T) :
  LendL h (.agg [pI n.id, .pv (.bool n.up), pI n.inc, pI n.g, .ref i0 g0, .ref i1 g1, .ref i2 g2, pI n.led, pI n.version, .ref i3 g3, .ref i4 g4, pI n.round, pI n.low] :: ls) (.agg (a1d false n) :: bs)
   ([(i0, (g0, .row 65 5 (n.lanes.map a1i))), (i1, (g1, .row 76 7 (n.kept.map w0w))), (i2, (g2, .row 104 5 (n.outs.map r0r))), (i3, (g3, .row 141 3 (n.views.map a1j))), (i4, (g4, .row 3 1 (n.known.map a2w)))] ++ T) :=
 .agg rfl (.cl rfl (.cl rfl (.cl rfl (.cl rfl (.ref h0 (Le.ow_map2 _ nf (c7u nf)) (.ref h1 (Le.ow_map _ nf (fun _ => rfl)) (.ref h2 (Le.ow_map _ nf (fun _ => rfl)) (.cl rfl (.cl rfl (.ref h3 (Le.ow_map2 _ nf (c7v nf)) (.ref h4 (Le.ow_map _ nf (fun _ => rfl)) (.cl rfl (.cl rfl .nil))))))))))))) t
theorem d4k {h : Hp} {p : Pa} {i j g g' : Nat} (h1 : v1v h i = some (g, .row 76 7 (p.sends.map w0w))) (h2 : v1v ((i, (g, .dead)) :: h) j = some (g', .row 104 5 (p.outs.map r0r))) (hne : Nat.beq i j = false) :
  Abs [pI p.ev.time, pI p.ev.to, pI p.ev.from', pI p.ev.count, pI p.ev.n, pI p.ev.kind, pI p.ev.arg, pI p.after.x, pI p.after.y, pI p.after.count, .ref i g, .ref j g'] h (a2l p)
   [(i, (g, .row 76 7 (p.sends.map w0w))), (j, (g', .row 104 5 (p.outs.map r0r)))] [(i, (g, .dead)), (j, (g', .dead))] := by
 have hne' : i ≠ j := fun e => by subst e; rw [Nat.beq_refl] at hne; cases hne
 exact .val rfl rfl (.val rfl rfl (.val rfl rfl (.val rfl rfl (.val rfl rfl (.val rfl rfl (.val rfl rfl (.val rfl rfl (.val rfl rfl (.val rfl rfl
  (.ref h1 (u3u fun _ => rfl) (.ref h2 (u3u fun _ => rfl) .nil rfl rfl) (by rw [q4q, if_neg (Ne.symm hne')]; rfl) (by simp [Ne.symm hne'])))))))))))
theorem d4l {h : Hp} {a : La} {i g : Nat} (h1 : v1v h i = some (g, .row 78 12 (a.done.map a2l))) :
  Abs [pI a.proc, pI a.base.x, pI a.base.y, pI a.base.count, .ref i g] h (a1i a) [(i, (g, .row 78 12 (a.done.map a2l)))] [(i, (g, .dead))] :=
 .val rfl rfl (.val rfl rfl (.val rfl rfl (.val rfl rfl (.ref h1 (u3u fun _ => rfl) .nil rfl rfl))))
theorem d4m {h : Hp} {v : Vi} {i g : Nat} (h1 : v1v h i = some (g, .row 76 7 (v.events.map w0w))) :
  Abs [pI v.inc, pI v.version, .ref i g] h (a1j v) [(i, (g, .row 76 7 (v.events.map w0w)))] [(i, (g, .dead))] :=
 .val rfl rfl (.val rfl rfl (.ref h1 (u3u fun _ => rfl) .nil rfl rfl))
theorem d6o {α : Type} [DecidableEq α] {l l' : List α} (h : ¬ l.length = l'.length) : [AV.pv (.bool false)] = [AV.pv (.bool (decide (l = l')))] := by
 rw [decide_eq_false (fun e => h (by rw [e]))]
theorem d6p {α : Type} [DecidableEq α] {l l' : List α} {i : Nat} {x y : α} (hx : l[i]? = some x) (hy : l'[i]? = some y) (h : ¬ x = y) : [AV.pv (.bool false)] = [AV.pv (.bool (decide (l = l')))] := by
 rw [decide_eq_false (fun e => h (by subst e; rw [hx] at hy; exact Option.some.inj hy))]
theorem eqT {α : Type} [DecidableEq α] {l l' : List α} {i : Nat} (h : l.take i = l'.take i) (h1 : l.length ≤ i) (h2 : l'.length ≤ i) : [AV.pv (.bool true)] = [AV.pv (.bool (decide (l = l')))] := by
 rw [List.take_of_length_le h1, List.take_of_length_le h2] at h
 rw [decide_eq_true h]
theorem a7v {α : Type} {l l' : List α} {i : Nat} {x y : α} (h : l.take i = l'.take i) (hx : l[i]? = some x) (hy : l'[i]? = some y) (e : x = y) : l.take (i + 1) = l'.take (i + 1) := by
 subst e
 rw [List.take_add_one, List.take_add_one, h, hx, hy]
def d1h (p : Int) : List AV := [pI p, pI 0, pI 0, pI 0, .pv (.slice none 0 0)]
theorem d1i (p : Int) : LeL true (d1h p) (a0m true (d0r p)) := .cons (.cl rfl) (.cons (.cl rfl) (.cons (.cl rfl) (.cons (.cl rfl) (.cons .nil .nil))))
theorem kF {p : Prop} [Decidable p] (h : ¬ p) : [AV.pv (.bool false)] = [AV.pv (.bool (decide p))] := by rw [decide_eq_false h]
theorem kT {p : Prop} [Decidable p] (h : p) : [AV.pv (.bool true)] = [AV.pv (.bool (decide p))] := by rw [decide_eq_true h]
theorem d1j {α β : Type} {f : α → β} {l : List α} {i : Nat} {x : α} (hx : l[i]? = some x) : (l.map f)[i]? = some (f x) := by simp [hx]
theorem evF : FindK Tryz.prog 179 (fun k => b7y (evN k)) := by
 obtain ⟨i, h1, _⟩ := (x7x _ _ y9y).info
 exact c7i Tryz.underlying179 h1 (by kernel_rfl) Tryz.underlying3 (fun _ => rfl) (fun _ _ h => d0q h)
theorem d5x {k : Bool} (e : Ev) : LeL k (w0w e) (w0w e) := .cons (.cl rfl) (.cons (.cl rfl) (.cons (.cl rfl) (.cons (.cl rfl) (.cons (.cl rfl) (.cons (.cl rfl) (.cons (.cl rfl) .nil))))))
theorem d5y {k : Bool} (e : Ou) : LeL k (r0r e) (r0r e) := .cons (.cl rfl) (.cons (.cl rfl) (.cons (.cl rfl) (.cons (.cl rfl) (.cons (.cl rfl) .nil))))
theorem c5j {k c c' : Bool} (hc : c' = true → c = true) (l : List Ev) : Le k (a0i c l) (a0i c' l) := Le.rd_map l hc d5x (fun _ => rfl)
theorem d1k {k c c' : Bool} (hc : c' = true → c = true) (l : List Ou) : Le k (a0z c l) (a0z c' l) := Le.rd_map l hc d5y (fun _ => rfl)
theorem d1l {k c c' : Bool} (hc : c' = true → c = true) (p : Pa) : LeL k (a2j c p) (a2j c' p) :=
 .cons (.cl rfl) (.cons (.cl rfl) (.cons (.cl rfl) (.cons (.cl rfl) (.cons (.cl rfl) (.cons (.cl rfl) (.cons (.cl rfl) (.cons (.cl rfl) (.cons (.cl rfl) (.cons (.cl rfl) (.cons (c5j hc _) (.cons (d1k hc _) .nil)))))))))))
theorem d5z {k c c' : Bool} (hc : c' = true → c = true) (l : List Pa) : Le k (a4j c l) (a4j c' l) := Le.rd_map l hc (d1l hc) (fun _ => rfl)
theorem d1m {k c c' : Bool} (hc : c' = true → c = true) (a : La) : LeL k (a0m c a) (a0m c' a) := .cons (.cl rfl) (.cons (.cl rfl) (.cons (.cl rfl) (.cons (.cl rfl) (.cons (d5z hc _) .nil))))
theorem d1n {k c c' : Bool} (hc : c' = true → c = true) (v : Vi) : LeL k (a2n c v) (a2n c' v) := .cons (.cl rfl) (.cons (.cl rfl) (.cons (c5j hc _) .nil))
theorem nfc {c : Bool} : false = true → c = true := fun h => by cases h

theorem d1o {h : Hp} {c : Bool} {n : Nd} {i0 i3 i4 g0 g3 g4 : Nat} {ls bs : List AV} {T : TL} (h0 : v1v h i0 = some (g0, .row 65 5 (n.lanes.map (a0m c)))) (h3 : v1v h i3 = some (g3, .row 141 3 (n.views.map (a2n c)))) (h4 : v1v h i4 = some (g4, .row 3 1 (n.known.map a2w))) (t : LendL h ls bs T) :
  LendL h (.agg [pI n.id, .pv (.bool n.up), pI n.inc, pI n.g, .ref i0 g0, a0i c n.kept, a0z c n.outs, pI n.led, pI n.version, .ref i3 g3, .ref i4 g4, pI n.round, pI n.low] :: ls) (.agg (a1d false n) :: bs)
   ([(i0, (g0, .row 65 5 (n.lanes.map (a0m c)))), (i3, (g3, .row 141 3 (n.views.map (a2n c)))), (i4, (g4, .row 3 1 (n.known.map a2w)))] ++ T) :=
 .agg rfl (.cl rfl (.cl rfl (.cl rfl (.cl rfl (.ref h0 (Le.ow_map2 _ nf (d1m nfc)) (.le rfl (c5j nfc _) (.le rfl (d1k nfc _) (.cl rfl (.cl rfl (.ref h3 (Le.ow_map2 _ nf (d1n nfc)) (.ref h4 (Le.ow_map _ nf (fun _ => rfl)) (.cl rfl (.cl rfl .nil))))))))))))) t
theorem d6a (e : Ev) : StrC (w0w e) := StrC.ints (evN e)
theorem d7t (e : Ou) : StrC (r0r e) := StrC.ints (ouL e)
theorem e0z (e : Int) : StrC (a2w e) := .cons (.pv _) rfl .nil
theorem d7u (p : Pa) : StrC (a2l p) := (StrC.ints (evN p.ev)).append ((StrC.ints (stL p.after)).append (.own (StrC.map d6a _) (.own (StrC.map d7t _) .nil)))
theorem d7v (a : La) : StrC (a1i a) := .cons (.pv _) rfl ((StrC.ints (stL a.base)).append (.own (StrC.map d7u _) .nil))
theorem d7w (v : Vi) : StrC (a1j v) := .cons (.pv _) rfl (.cons (.pv _) rfl (.own (StrC.map d6a _) .nil))
theorem d6b {n : Nd} {i0 i1 i2 i3 i4 g0 g1 g2 g3 g4 : Nat} {r : Hp} (t : StrH r) : StrH ((i0, (g0, .row 65 5 (n.lanes.map a1i))) :: (i1, (g1, .row 76 7 (n.kept.map w0w))) :: (i2, (g2, .row 104 5 (n.outs.map r0r))) :: (i3, (g3, .row 141 3 (n.views.map a1j))) :: (i4, (g4, .row 3 1 (n.known.map a2w))) :: r) :=
 .row (StrC.map d7v _) (.row (StrC.map d6a _) (.row (StrC.map d7t _) (.row (StrC.map d7w _) (.row (StrC.map e0z _) t))))
theorem d8w {a b : List AV} (h : ∀ y ∈ a, Strict y) (k : ∀ y ∈ b, Strict y) : ∀ y ∈ a ++ b, Strict y := fun y hy => by
 rcases List.mem_append.1 hy with hy | hy
 ·exact h y hy
 ·exact k y hy
theorem a4s {a : AV} {b : List AV} (h : Strict a) (k : ∀ y ∈ b, Strict y) : ∀ y ∈ a :: b, Strict y := fun y hy => by
 rcases List.mem_cons.1 hy with rfl | hy
 ·exact h
 ·exact k y hy
theorem d6c : ∀ y ∈ ([] : List AV), Strict y := fun y hy => by cases hy
theorem c7w (l : List Int) : ∀ y ∈ l.map pI, Strict y := fun y hy => by
 obtain ⟨n, _, rfl⟩ := List.mem_map.1 hy
 exact .pv _
theorem b7k (l : List Ev) : Strict (a0i true l) := a5k fun e => c7w (evN e)
theorem c4a (l : List Ou) : Strict (a0z true l) := a5k fun e => c7w (ouL e)
theorem c7x (l : List Int) : Strict (a4i true l) := a5k fun e => a4s (.pv _) d6c
theorem sPa (p : Pa) : ∀ y ∈ a2j true p, Strict y := d8w (c7w (evN p.ev)) (d8w (c7w (stL p.after)) (a4s (b7k _) (a4s (c4a _) d6c)))
theorem d1p (l : List Pa) : Strict (a4j true l) := a5k sPa
theorem sLa (a : La) : ∀ y ∈ a0m true a, Strict y := a4s (.pv _) (d8w (c7w (stL a.base)) (a4s (d1p _) d6c))
theorem d1q (l : List La) : Strict (c1h true l) := a5k sLa
theorem sVi (v : Vi) : ∀ y ∈ a2n true v, Strict y := a4s (.pv _) (a4s (.pv _) (a4s (b7k _) d6c))
theorem d1r (l : List Vi) : Strict (c1i true l) := a5k sVi
theorem d3g (n : Nd) : Strict (.agg (a1d true n)) :=
 .agg (a4s (.pv _) (a4s (.pv _) (a4s (.pv _) (a4s (.pv _) (a4s (d1q _) (a4s (b7k _) (a4s (c4a _) (a4s (.pv _) (a4s (.pv _) (a4s (d1r _) (a4s (c7x _) (a4s (.pv _) (a4s (.pv _) d6c)))))))))))))
def d8x (c : Bool) (w : Wo) : List AV := [pI w.kind, pI w.from', pI w.to, pI w.inc, pI w.version, pI w.round, pI w.g, a4i c w.incs, a4i c w.versions, a0i c w.events, a0z c w.outs]
def d4n (c : Bool) (l : List Wo) : AV := .row (.rd c) 52 11 (l.map (d8x c))
def d9m (w : Wo) : List AV := [pI w.kind, pI w.from', pI w.to, pI w.inc, pI w.version, pI w.round, pI w.g, .row .ow 3 1 (w.incs.map a2w), .row .ow 3 1 (w.versions.map a2w), .row .ow 76 7 (w.events.map w0w), .row .ow 104 5 (w.outs.map r0r)]
theorem z9z : (∀ ρ g c l, inB ρ g (a4i c l) = a4i c l) ∧ (∀ ρ g c l, inC ρ g (a4i c l) = a4i c l) ∧ (∀ ρ g c l, inA ρ g (a4i c l) = a4i c l) ∧ (∀ ρ g c l, inT ρ g (a4i c l) = a4i c l) ∧ (∀ ρ g c l, inB ρ g (a0i c l) = a0i c l) ∧ (∀ ρ g c l, inC ρ g (a0i c l) = a0i c l) ∧ (∀ ρ g c l, inA ρ g (a0i c l) = a0i c l) ∧ (∀ ρ g c l, inT ρ g (a0i c l) = a0i c l) ∧ (∀ ρ g c l, inB ρ g (a0z c l) = a0z c l) ∧ (∀ ρ g c l, inC ρ g (a0z c l) = a0z c l) ∧ (∀ ρ g c l, inA ρ g (a0z c l) = a0z c l) ∧ (∀ ρ g c l, inT ρ g (a0z c l) = a0z c l) ∧ (∀ ρ g c l, inB ρ g (a4j c l) = a4j c l) ∧ (∀ ρ g c l, inC ρ g (a4j c l) = a4j c l) ∧ (∀ ρ g c l, inA ρ g (a4j c l) = a4j c l) ∧ (∀ ρ g c l, inT ρ g (a4j c l) = a4j c l) ∧ (∀ ρ g c l, inB ρ g (c1h c l) = c1h c l) ∧ (∀ ρ g c l, inC ρ g (c1h c l) = c1h c l) ∧ (∀ ρ g c l, inA ρ g (c1h c l) = c1h c l) ∧ (∀ ρ g c l, inT ρ g (c1h c l) = c1h c l) ∧ (∀ ρ g c l, inB ρ g (c1i c l) = c1i c l) ∧ (∀ ρ g c l, inC ρ g (c1i c l) = c1i c l) ∧ (∀ ρ g c l, inA ρ g (c1i c l) = c1i c l) ∧ (∀ ρ g c l, inT ρ g (c1i c l) = c1i c l) ∧ (∀ ρ g c l, inB ρ g (d4n c l) = d4n c l) ∧ (∀ ρ g c l, inC ρ g (d4n c l) = d4n c l) ∧ (∀ ρ g c l, inA ρ g (d4n c l) = d4n c l) ∧ (∀ ρ g c l, inT ρ g (d4n c l) = d4n c l) := by
 refine ⟨?_, ?_, ?_, ?_, ?_, ?_, ?_, ?_, ?_, ?_, ?_, ?_, ?_, ?_, ?_, ?_, ?_, ?_, ?_, ?_, ?_, ?_, ?_, ?_, ?_, ?_, ?_, ?_⟩ <;> intros <;> rfl
theorem b2z {h h' : Hp} {n : Nd} {i0 i3 i4 g0 g3 g4 : Nat} {az bs : List AV} (h0 : v1v h i0 = some (g0, .row 65 5 (n.lanes.map (a0m true)))) (h3 : v1v ((i0, (g0, .dead)) :: h) i3 = some (g3, .row 141 3 (n.views.map (a2n true)))) (h4 : v1v ((i3, (g3, .dead)) :: (i0, (g0, .dead)) :: h) i4 = some (g4, .row 3 1 (n.known.map a2w)))
  (t : FinL ((i4, (g4, .dead)) :: (i3, (g3, .dead)) :: (i0, (g0, .dead)) :: h) az bs h') :
  FinL h (.agg [pI n.id, .pv (.bool n.up), pI n.inc, pI n.g, .ref i0 g0, a0i true n.kept, a0z true n.outs, pI n.led, pI n.version, .ref i3 g3, .ref i4 g4, pI n.round, pI n.low] :: az) (.agg (a1d true n) :: bs) h' :=
 .agg rfl (.cl rfl (.cl rfl (.cl rfl (.cl rfl (.ref h0 (Le.ow_map _ (fun _ => rfl) (fun _ => rfl)) (.cl rfl (.cl rfl (.cl rfl (.cl rfl (.ref h3 (Le.ow_map _ (fun _ => rfl) (fun _ => rfl)) (.ref h4 (Le.ow_map _ (fun _ => rfl) (fun _ => rfl)) (.cl rfl (.cl rfl .nil))))))))))))) t
theorem d6e {h h' : Hp} {az bs : List AV} (t : FinL h az bs h') : FinL h (.agg [pI 0, .pv (.bool false), pI 0, pI 0, .pv (.slice none 0 0), .pv (.slice none 0 0), .pv (.slice none 0 0), pI 0, pI 0, .pv (.slice none 0 0), .pv (.slice none 0 0), pI 0, pI 0] :: az) (.agg (a1d true nd0) :: bs) h' :=
 .agg rfl (.cl rfl (.cl rfl (.cl rfl (.cl rfl (.le rfl .nil (.le rfl .nil (.le rfl .nil (.cl rfl (.cl rfl (.le rfl .nil (.le rfl .nil (.cl rfl (.cl rfl .nil))))))))))))) t
end
section
theorem b7l (l : List Int) (k : Nat) (hk : k + szs zI l ≤ 1000000000) : Meth Tryz.prog 20 1 [0] [.ref 0 0, .pv (.int .i64 (k : Int))] [(0, (0, .row 3 1 (l.map a2w)))] (.pv (.int .i64 ((k + szs zI l : Nat) : Int))) [(0, (0, .row 3 1 ((mks zI kI k l).map a2w)))] := by
 refine u8u x7x (fn := Tryz.f20) (by kernel_rfl) (by kernel_rfl) rfl (O0 := [.pv (.int .i64 ((k + szs zI l : Nat) : Int))]) 1 0 (Nat.le_of_ble_eq_true rfl) (by rfl) (by repeat (first | exact BndH.nil | refine BndH.row (u3u fun _ => rfl) ?_)) (by repeat (first | exact BndH.nil | refine BndH.row (u3u fun _ => rfl) ?_)) (by rfl) fun γ => ?_
 show Ex Tryz.prog _ _ [(0, .ref 0 (γ 0)), (1, .pv (.int .i64 (k : Int)))] [(0, ((γ 0), .row 3 1 (l.map a2w)))] _
 have hml := a4p zI kI k l
 have hll := a4q zI (fun p => by unfold zI; omega) l
 refine x4x x7x (by rfl) ?_
 refine x2x rfl ?_
 refine x5x fun K1 hK1 => ?_
 refine x4x x7x (by rfl) ?_
 refine x2x rfl ?_
 refine y6y ?_
 refine u4u (ι := Nat) (fun i γ1 => [(1, .pv (.int .i64 ((k + szs zI (l.take i) : Nat) : Int))), (5, .pv (.int .i64 (i : Int)))]) (fun i γ1 => [(0, ((γ 0), .row 3 1 (((mks zI kI k l).take i).map a2w ++ (l.drop i).map a2w)))]) (fun i => i ≤ l.length) (fun i => l.length - i) (Cov.cons (t := 0) rfl Cov.nil) HE.nil 0 (by omega) [] (Cov.cons' (t := 1) rfl (by rw [List.take_zero]; rfl) (Cov.cons (t := 5) rfl Cov.nil)) (HE.row rfl (by rw [List.take_zero, List.drop_zero]; rfl) HE.nil) rfl fun i γ1 hi => ?_
 try dsimp only [List.cons_append, List.nil_append]
 refine x5x fun K2 hK2 => ?_
 refine x4x x7x (by rfl) ?_
 refine x1x rfl ?_
 refine x1x rfl ?_
 refine a0v (n := l.length) rfl p3p rfl rfl (by rw [List.length_append, List.length_map, List.length_map, List.length_take, List.length_drop]; omega) ?_
 refine y3y rfl rfl rfl ?_
 refine x8x rfl (fun hc3 => ?_) (fun hc3 => ?_)
 rotate_left
 ·try simp at hc3
  obtain rfl : i = l.length := by omega
  refine v0v ?_
  refine hK1 _ _ ?_
  clear hK2 K2 hK1 K1
  refine x4x x7x (by rfl) ?_
  refine x1x rfl ?_
  refine x2x rfl ?_
  refine y0y ?_
  exact ⟨.inr rfl, [γ 0], rfl, congrArg (fun v : Nat => some [AV.pv (.int .i64 (v : Int))]) (by rw [List.take_length]), HE.row rfl (by rw [List.take_of_length_le (by omega), List.drop_length, List.map_nil, List.append_nil]) HE.nil⟩
 try simp at hc3
 obtain ⟨p, hp⟩ : ∃ p, l[i]? = some p := ⟨_, List.getElem?_eq_getElem (by omega)⟩
 have hmk := a4r zI kI (k := k) hp
 have hat := a2t zI hp
 have hzp : zI p = 1 := rfl
 have hAl : (((mks zI kI k l).take i).map a2w).length = i := by rw [List.length_map, List.length_take]; omega
 rw [q2q hp, List.map_cons]
 rw [show a2w p = [pI p] from rfl]
 obtain ⟨q, hq⟩ : ∃ q, q = k + szs zI (l.take i) := ⟨_, rfl⟩
 rw [← hq] at hmk ⊢
 refine x9x ?_
 refine hK2 _ _ ?_
 clear hK2 K2
 refine x5x fun K4 hK4 => ?_
 refine y6y ?_
 refine x4x x7x (by rfl) ?_
 refine x1x rfl ?_
 refine x1x rfl ?_
 refine x1x rfl ?_
 refine q7q rfl rfl p3p rfl y9y rfl rfl hAl ?_
 refine p9p hAl rfl rfl y9y rfl rfl rfl rfl rfl rfl rfl (by simp only [List.set_cons_zero, List.set_cons_succ]; rfl) ?_
 refine y4y x7x (by rfl) ?_
 refine x1x rfl ?_
 refine u1u (b := 1) rfl rfl (by omega) ?_
 refine x2x rfl ?_
 refine hK4 _ _ ?_
 clear hK4 K4
 refine y4y x7x (by rfl) ?_
 refine x1x rfl ?_
 refine u1u (b := 1) rfl rfl (by omega) ?_
 refine x2x rfl ?_
 exact ⟨i + 1, ⟨by omega, by omega⟩, [], (Cov.cons' (t := 1) rfl (by rw [a0l zI hp]; exact congrArg (fun v : Nat => AV.pv (.int .i64 (v : Int))) (by omega)) (Cov.cons (t := 5) rfl Cov.nil)), (Cov.cons (t := 0) rfl Cov.nil), (HE.row rfl (by rw [p1p hmk, List.map_append, List.append_assoc]; rfl) HE.nil), HE.nil, rfl⟩
theorem a3v (l : List Ev) (k : Nat) (hk : k + szs zEv l ≤ 1000000000) : Meth Tryz.prog 56 1 [0] [.ref 0 0, .pv (.int .i64 (k : Int))] [(0, (0, .row 76 7 (l.map w0w)))] (.pv (.int .i64 ((k + szs zEv l : Nat) : Int))) [(0, (0, .row 76 7 ((mks zEv kEv k l).map w0w)))] := by
 refine u8u x7x (fn := Tryz.f56) (by kernel_rfl) (by kernel_rfl) rfl (O0 := [.pv (.int .i64 ((k + szs zEv l : Nat) : Int))]) 1 0 (Nat.le_of_ble_eq_true rfl) (by rfl) (by repeat (first | exact BndH.nil | refine BndH.row (u3u fun _ => rfl) ?_)) (by repeat (first | exact BndH.nil | refine BndH.row (u3u fun _ => rfl) ?_)) (by rfl) fun γ => ?_
 show Ex Tryz.prog _ _ [(0, .ref 0 (γ 0)), (1, .pv (.int .i64 (k : Int)))] [(0, ((γ 0), .row 76 7 (l.map w0w)))] _
 have hml := a4p zEv kEv k l
 have hll := a4q zEv (fun p => by unfold zEv; omega) l
 refine x4x x7x (by rfl) ?_
 refine x2x rfl ?_
 refine x5x fun K1 hK1 => ?_
 refine x4x x7x (by rfl) ?_
 refine x2x rfl ?_
 refine y6y ?_
 refine u4u (ι := Nat) (fun i γ1 => [(1, .pv (.int .i64 ((k + szs zEv (l.take i) : Nat) : Int))), (5, .pv (.int .i64 (i : Int)))]) (fun i γ1 => [(0, ((γ 0), .row 76 7 (((mks zEv kEv k l).take i).map w0w ++ (l.drop i).map w0w)))]) (fun i => i ≤ l.length) (fun i => l.length - i) (Cov.cons (t := 0) rfl Cov.nil) HE.nil 0 (by omega) [] (Cov.cons' (t := 1) rfl (by rw [List.take_zero]; rfl) (Cov.cons (t := 5) rfl Cov.nil)) (HE.row rfl (by rw [List.take_zero, List.drop_zero]; rfl) HE.nil) rfl fun i γ1 hi => ?_
 try dsimp only [List.cons_append, List.nil_append]
 refine x5x fun K2 hK2 => ?_
 refine x4x x7x (by rfl) ?_
 refine x1x rfl ?_
 refine x1x rfl ?_
 refine a0v (n := l.length) rfl u6u rfl rfl (by rw [List.length_append, List.length_map, List.length_map, List.length_take, List.length_drop]; omega) ?_
 refine y3y rfl rfl rfl ?_
 refine x8x rfl (fun hc3 => ?_) (fun hc3 => ?_)
 rotate_left
 ·try simp at hc3
  obtain rfl : i = l.length := by omega
  refine v0v ?_
  refine hK1 _ _ ?_
  clear hK2 K2 hK1 K1
  refine x4x x7x (by rfl) ?_
  refine x1x rfl ?_
  refine x2x rfl ?_
  refine y0y ?_
  exact ⟨.inr rfl, [γ 0], rfl, congrArg (fun v : Nat => some [AV.pv (.int .i64 (v : Int))]) (by rw [List.take_length]), HE.row rfl (by rw [List.take_of_length_le (by omega), List.drop_length, List.map_nil, List.append_nil]) HE.nil⟩
 try simp at hc3
 obtain ⟨p, hp⟩ : ∃ p, l[i]? = some p := ⟨_, List.getElem?_eq_getElem (by omega)⟩
 have hmk := a4r zEv kEv (k := k) hp
 have hat := a2t zEv hp
 have hzp : zEv p = 7 := rfl
 have hAl : (((mks zEv kEv k l).take i).map w0w).length = i := by rw [List.length_map, List.length_take]; omega
 rw [q2q hp, List.map_cons]
 rw [show w0w p = [pI p.time, pI p.to, pI p.from', pI p.count, pI p.n, pI p.kind, pI p.arg] from rfl]
 obtain ⟨q, hq⟩ : ∃ q, q = k + szs zEv (l.take i) := ⟨_, rfl⟩
 rw [← hq] at hmk ⊢
 refine x9x ?_
 refine hK2 _ _ ?_
 clear hK2 K2
 refine x5x fun K4 hK4 => ?_
 refine y6y ?_
 refine x4x x7x (by rfl) ?_
 refine x1x rfl ?_
 refine x1x rfl ?_
 refine x1x rfl ?_
 refine q7q rfl rfl u6u rfl z1z rfl rfl hAl ?_
 refine x0x rfl z1z rfl rfl y9y rfl rfl ?_
 refine p9p hAl rfl rfl y9y rfl rfl rfl rfl rfl rfl rfl (by simp only [List.set_cons_zero, List.set_cons_succ]; rfl) ?_
 refine x4x x7x (by rfl) ?_
 refine x1x rfl ?_
 refine u1u (b := 1) rfl rfl (by omega) ?_
 refine x2x rfl ?_
 refine x4x x7x (by rfl) ?_
 refine x1x rfl ?_
 refine x1x rfl ?_
 refine x1x rfl ?_
 refine q7q rfl rfl u6u rfl z1z rfl rfl hAl ?_
 refine x0x rfl z1z rfl rfl y9y rfl rfl ?_
 refine p9p hAl rfl rfl y9y rfl rfl rfl rfl rfl rfl rfl (by simp only [List.set_cons_zero, List.set_cons_succ]; rfl) ?_
 refine x4x x7x (by rfl) ?_
 refine x1x rfl ?_
 refine u1u (b := 1) rfl rfl (by omega) ?_
 refine x2x rfl ?_
 refine x4x x7x (by rfl) ?_
 refine x1x rfl ?_
 refine x1x rfl ?_
 refine x1x rfl ?_
 refine q7q rfl rfl u6u rfl z1z rfl rfl hAl ?_
 refine x0x rfl z1z rfl rfl y9y rfl rfl ?_
 refine p9p hAl rfl rfl y9y rfl rfl rfl rfl rfl rfl rfl (by simp only [List.set_cons_zero, List.set_cons_succ]; rfl) ?_
 refine x4x x7x (by rfl) ?_
 refine x1x rfl ?_
 refine u1u (b := 1) rfl rfl (by omega) ?_
 refine x2x rfl ?_
 refine x4x x7x (by rfl) ?_
 refine x1x rfl ?_
 refine x1x rfl ?_
 refine x1x rfl ?_
 refine q7q rfl rfl u6u rfl z1z rfl rfl hAl ?_
 refine x0x rfl z1z rfl rfl y9y rfl rfl ?_
 refine p9p hAl rfl rfl y9y rfl rfl rfl rfl rfl rfl rfl (by simp only [List.set_cons_zero, List.set_cons_succ]; rfl) ?_
 refine x4x x7x (by rfl) ?_
 refine x1x rfl ?_
 refine u1u (b := 1) rfl rfl (by omega) ?_
 refine x2x rfl ?_
 refine x4x x7x (by rfl) ?_
 refine x1x rfl ?_
 refine x1x rfl ?_
 refine x1x rfl ?_
 refine q7q rfl rfl u6u rfl z1z rfl rfl hAl ?_
 refine x0x rfl z1z rfl rfl y9y rfl rfl ?_
 refine p9p hAl rfl rfl y9y rfl rfl rfl rfl rfl rfl rfl (by simp only [List.set_cons_zero, List.set_cons_succ]; rfl) ?_
 refine x4x x7x (by rfl) ?_
 refine x1x rfl ?_
 refine u1u (b := 1) rfl rfl (by omega) ?_
 refine x2x rfl ?_
 refine x4x x7x (by rfl) ?_
 refine x1x rfl ?_
 refine x1x rfl ?_
 refine x1x rfl ?_
 refine q7q rfl rfl u6u rfl z1z rfl rfl hAl ?_
 refine x0x rfl z1z rfl rfl y9y rfl rfl ?_
 refine p9p hAl rfl rfl y9y rfl rfl rfl rfl rfl rfl rfl (by simp only [List.set_cons_zero, List.set_cons_succ]; rfl) ?_
 refine x4x x7x (by rfl) ?_
 refine x1x rfl ?_
 refine u1u (b := 1) rfl rfl (by omega) ?_
 refine x2x rfl ?_
 refine x4x x7x (by rfl) ?_
 refine x1x rfl ?_
 refine x1x rfl ?_
 refine x1x rfl ?_
 refine q7q rfl rfl u6u rfl z1z rfl rfl hAl ?_
 refine x0x rfl z1z rfl rfl y9y rfl rfl ?_
 refine p9p hAl rfl rfl y9y rfl rfl rfl rfl rfl rfl rfl (by simp only [List.set_cons_zero, List.set_cons_succ]; rfl) ?_
 refine y4y x7x (by rfl) ?_
 refine x1x rfl ?_
 refine u1u (b := 1) rfl rfl (by omega) ?_
 refine x2x rfl ?_
 refine hK4 _ _ ?_
 clear hK4 K4
 refine y4y x7x (by rfl) ?_
 refine x1x rfl ?_
 refine u1u (b := 1) rfl rfl (by omega) ?_
 refine x2x rfl ?_
 exact ⟨i + 1, ⟨by omega, by omega⟩, [], (Cov.cons' (t := 1) rfl (by rw [a0l zEv hp]; exact congrArg (fun v : Nat => AV.pv (.int .i64 (v : Int))) (by omega)) (Cov.cons (t := 5) rfl Cov.nil)), (Cov.cons (t := 0) rfl Cov.nil), (HE.row rfl (by rw [p1p hmk, List.map_append, List.append_assoc]; rfl) HE.nil), HE.nil, rfl⟩
theorem a9u (l : List Ou) (k : Nat) (hk : k + szs zOu l ≤ 1000000000) : Meth Tryz.prog 88 1 [0] [.ref 0 0, .pv (.int .i64 (k : Int))] [(0, (0, .row 104 5 (l.map r0r)))] (.pv (.int .i64 ((k + szs zOu l : Nat) : Int))) [(0, (0, .row 104 5 ((mks zOu kOu k l).map r0r)))] := by
 refine u8u x7x (fn := Tryz.f88) (by kernel_rfl) (by kernel_rfl) rfl (O0 := [.pv (.int .i64 ((k + szs zOu l : Nat) : Int))]) 1 0 (Nat.le_of_ble_eq_true rfl) (by rfl) (by repeat (first | exact BndH.nil | refine BndH.row (u3u fun _ => rfl) ?_)) (by repeat (first | exact BndH.nil | refine BndH.row (u3u fun _ => rfl) ?_)) (by rfl) fun γ => ?_
 show Ex Tryz.prog _ _ [(0, .ref 0 (γ 0)), (1, .pv (.int .i64 (k : Int)))] [(0, ((γ 0), .row 104 5 (l.map r0r)))] _
 have hml := a4p zOu kOu k l
 have hll := a4q zOu (fun p => by unfold zOu; omega) l
 refine x4x x7x (by rfl) ?_
 refine x2x rfl ?_
 refine x5x fun K1 hK1 => ?_
 refine x4x x7x (by rfl) ?_
 refine x2x rfl ?_
 refine y6y ?_
 refine u4u (ι := Nat) (fun i γ1 => [(1, .pv (.int .i64 ((k + szs zOu (l.take i) : Nat) : Int))), (5, .pv (.int .i64 (i : Int)))]) (fun i γ1 => [(0, ((γ 0), .row 104 5 (((mks zOu kOu k l).take i).map r0r ++ (l.drop i).map r0r)))]) (fun i => i ≤ l.length) (fun i => l.length - i) (Cov.cons (t := 0) rfl Cov.nil) HE.nil 0 (by omega) [] (Cov.cons' (t := 1) rfl (by rw [List.take_zero]; rfl) (Cov.cons (t := 5) rfl Cov.nil)) (HE.row rfl (by rw [List.take_zero, List.drop_zero]; rfl) HE.nil) rfl fun i γ1 hi => ?_
 try dsimp only [List.cons_append, List.nil_append]
 refine x5x fun K2 hK2 => ?_
 refine x4x x7x (by rfl) ?_
 refine x1x rfl ?_
 refine x1x rfl ?_
 refine a0v (n := l.length) rfl u7u rfl rfl (by rw [List.length_append, List.length_map, List.length_map, List.length_take, List.length_drop]; omega) ?_
 refine y3y rfl rfl rfl ?_
 refine x8x rfl (fun hc3 => ?_) (fun hc3 => ?_)
 rotate_left
 ·try simp at hc3
  obtain rfl : i = l.length := by omega
  refine v0v ?_
  refine hK1 _ _ ?_
  clear hK2 K2 hK1 K1
  refine x4x x7x (by rfl) ?_
  refine x1x rfl ?_
  refine x2x rfl ?_
  refine y0y ?_
  exact ⟨.inr rfl, [γ 0], rfl, congrArg (fun v : Nat => some [AV.pv (.int .i64 (v : Int))]) (by rw [List.take_length]), HE.row rfl (by rw [List.take_of_length_le (by omega), List.drop_length, List.map_nil, List.append_nil]) HE.nil⟩
 try simp at hc3
 obtain ⟨p, hp⟩ : ∃ p, l[i]? = some p := ⟨_, List.getElem?_eq_getElem (by omega)⟩
 have hmk := a4r zOu kOu (k := k) hp
 have hat := a2t zOu hp
 have hzp : zOu p = 5 := rfl
 have hAl : (((mks zOu kOu k l).take i).map r0r).length = i := by rw [List.length_map, List.length_take]; omega
 rw [q2q hp, List.map_cons]
 rw [show r0r p = [pI p.time, pI p.proc, pI p.count, pI p.n, pI p.value] from rfl]
 obtain ⟨q, hq⟩ : ∃ q, q = k + szs zOu (l.take i) := ⟨_, rfl⟩
 rw [← hq] at hmk ⊢
 refine x9x ?_
 refine hK2 _ _ ?_
 clear hK2 K2
 refine x5x fun K4 hK4 => ?_
 refine y6y ?_
 refine x4x x7x (by rfl) ?_
 refine x1x rfl ?_
 refine x1x rfl ?_
 refine x1x rfl ?_
 refine q7q rfl rfl u7u rfl u0u rfl rfl hAl ?_
 refine x0x rfl u0u rfl rfl y9y rfl rfl ?_
 refine p9p hAl rfl rfl y9y rfl rfl rfl rfl rfl rfl rfl (by simp only [List.set_cons_zero, List.set_cons_succ]; rfl) ?_
 refine x4x x7x (by rfl) ?_
 refine x1x rfl ?_
 refine u1u (b := 1) rfl rfl (by omega) ?_
 refine x2x rfl ?_
 refine x4x x7x (by rfl) ?_
 refine x1x rfl ?_
 refine x1x rfl ?_
 refine x1x rfl ?_
 refine q7q rfl rfl u7u rfl u0u rfl rfl hAl ?_
 refine x0x rfl u0u rfl rfl y9y rfl rfl ?_
 refine p9p hAl rfl rfl y9y rfl rfl rfl rfl rfl rfl rfl (by simp only [List.set_cons_zero, List.set_cons_succ]; rfl) ?_
 refine x4x x7x (by rfl) ?_
 refine x1x rfl ?_
 refine u1u (b := 1) rfl rfl (by omega) ?_
 refine x2x rfl ?_
 refine x4x x7x (by rfl) ?_
 refine x1x rfl ?_
 refine x1x rfl ?_
 refine x1x rfl ?_
 refine q7q rfl rfl u7u rfl u0u rfl rfl hAl ?_
 refine x0x rfl u0u rfl rfl y9y rfl rfl ?_
 refine p9p hAl rfl rfl y9y rfl rfl rfl rfl rfl rfl rfl (by simp only [List.set_cons_zero, List.set_cons_succ]; rfl) ?_
 refine x4x x7x (by rfl) ?_
 refine x1x rfl ?_
 refine u1u (b := 1) rfl rfl (by omega) ?_
 refine x2x rfl ?_
 refine x4x x7x (by rfl) ?_
 refine x1x rfl ?_
 refine x1x rfl ?_
 refine x1x rfl ?_
 refine q7q rfl rfl u7u rfl u0u rfl rfl hAl ?_
 refine x0x rfl u0u rfl rfl y9y rfl rfl ?_
 refine p9p hAl rfl rfl y9y rfl rfl rfl rfl rfl rfl rfl (by simp only [List.set_cons_zero, List.set_cons_succ]; rfl) ?_
 refine x4x x7x (by rfl) ?_
 refine x1x rfl ?_
 refine u1u (b := 1) rfl rfl (by omega) ?_
 refine x2x rfl ?_
 refine x4x x7x (by rfl) ?_
 refine x1x rfl ?_
 refine x1x rfl ?_
 refine x1x rfl ?_
 refine q7q rfl rfl u7u rfl u0u rfl rfl hAl ?_
 refine x0x rfl u0u rfl rfl y9y rfl rfl ?_
 refine p9p hAl rfl rfl y9y rfl rfl rfl rfl rfl rfl rfl (by simp only [List.set_cons_zero, List.set_cons_succ]; rfl) ?_
 refine y4y x7x (by rfl) ?_
 refine x1x rfl ?_
 refine u1u (b := 1) rfl rfl (by omega) ?_
 refine x2x rfl ?_
 refine hK4 _ _ ?_
 clear hK4 K4
 refine y4y x7x (by rfl) ?_
 refine x1x rfl ?_
 refine u1u (b := 1) rfl rfl (by omega) ?_
 refine x2x rfl ?_
 exact ⟨i + 1, ⟨by omega, by omega⟩, [], (Cov.cons' (t := 1) rfl (by rw [a0l zOu hp]; exact congrArg (fun v : Nat => AV.pv (.int .i64 (v : Int))) (by omega)) (Cov.cons (t := 5) rfl Cov.nil)), (Cov.cons (t := 0) rfl Cov.nil), (HE.row rfl (by rw [p1p hmk, List.map_append, List.append_assoc]; rfl) HE.nil), HE.nil, rfl⟩
theorem b4s (l : List Pa) (k : Nat) (hk : k + szs zPa l ≤ 1000000000) : Meth Tryz.prog 179 1 [0] [.ref 0 0, .pv (.int .i64 (k : Int))] [(0, (0, .row 78 12 (l.map a2l)))] (.pv (.int .i64 ((k + szs zPa l : Nat) : Int))) [(0, (0, .row 78 12 ((mks zPa kPa k l).map a2l)))] := by
 refine u8u x7x (fn := Tryz.f179) (by kernel_rfl) (by kernel_rfl) rfl (O0 := [.pv (.int .i64 ((k + szs zPa l : Nat) : Int))]) 1 1 (Nat.le_of_ble_eq_true rfl) (by rfl) (by repeat (first | exact BndH.nil | refine BndH.row (u3u fun _ => rfl) ?_)) (by repeat (first | exact BndH.nil | refine BndH.row (u3u fun _ => rfl) ?_)) (by rfl) fun γ => ?_
 show Ex Tryz.prog _ _ [(0, .ref 0 (γ 0)), (1, .pv (.int .i64 (k : Int)))] [(0, ((γ 0), .row 78 12 (l.map a2l))), (1, (0, .dead))] _
 have hml := a4p zPa kPa k l
 have hll := a4q zPa (fun p => by unfold zPa; omega) l
 refine x4x x7x (by rfl) ?_
 refine x2x rfl ?_
 refine x5x fun K1 hK1 => ?_
 refine x4x x7x (by rfl) ?_
 refine x2x rfl ?_
 refine y6y ?_
 refine u4u (ι := Nat) (fun i γ1 => [(1, .pv (.int .i64 ((k + szs zPa (l.take i) : Nat) : Int))), (5, .pv (.int .i64 (i : Int)))]) (fun i γ1 => [(1, ((γ1 1), .dead)), (0, ((γ 0), .row 78 12 (((mks zPa kPa k l).take i).map a2l ++ (l.drop i).map a2l)))]) (fun i => i ≤ l.length) (fun i => l.length - i) (Cov.cons (t := 0) rfl Cov.nil) HE.nil 0 (by omega) [0, _] (Cov.cons' (t := 1) rfl (by rw [List.take_zero]; rfl) (Cov.cons (t := 5) rfl Cov.nil)) (HE.kill rfl (HE.row rfl (by rw [List.take_zero, List.drop_zero]; rfl) HE.nil)) rfl fun i γ1 hi => ?_
 try dsimp only [List.cons_append, List.nil_append]
 refine x5x fun K2 hK2 => ?_
 refine x4x x7x (by rfl) ?_
 refine x1x rfl ?_
 refine x1x rfl ?_
 refine a0v (n := l.length) rfl v3v rfl rfl (by rw [List.length_append, List.length_map, List.length_map, List.length_take, List.length_drop]; omega) ?_
 refine y3y rfl rfl rfl ?_
 refine x8x rfl (fun hc3 => ?_) (fun hc3 => ?_)
 rotate_left
 ·try simp at hc3
  obtain rfl : i = l.length := by omega
  refine v0v ?_
  refine hK1 _ _ ?_
  clear hK2 K2 hK1 K1
  refine x4x x7x (by rfl) ?_
  refine x1x rfl ?_
  refine x2x rfl ?_
  refine y0y ?_
  exact ⟨.inr rfl, [γ 0], rfl, congrArg (fun v : Nat => some [AV.pv (.int .i64 (v : Int))]) (by rw [List.take_length]), HE.row rfl (by rw [List.take_of_length_le (by omega), List.drop_length, List.map_nil, List.append_nil]) HE.nil⟩
 try simp at hc3
 obtain ⟨p, hp⟩ : ∃ p, l[i]? = some p := ⟨_, List.getElem?_eq_getElem (by omega)⟩
 have hmk := a4r zPa kPa (k := k) hp
 have hat := a2t zPa hp
 have hzp : zPa p = 10 + szs zEv p.sends + szs zOu p.outs := rfl
 have hAl : (((mks zPa kPa k l).take i).map a2l).length = i := by rw [List.length_map, List.length_take]; omega
 rw [q2q hp, List.map_cons]
 rw [show a2l p = [pI p.ev.time, pI p.ev.to, pI p.ev.from', pI p.ev.count, pI p.ev.n, pI p.ev.kind, pI p.ev.arg, pI p.after.x, pI p.after.y, pI p.after.count, .row .ow 76 7 (p.sends.map w0w), .row .ow 104 5 (p.outs.map r0r)] from rfl]
 obtain ⟨q, hq⟩ : ∃ q, q = k + szs zPa (l.take i) := ⟨_, rfl⟩
 rw [← hq] at hmk ⊢
 refine x9x ?_
 refine hK2 _ _ ?_
 clear hK2 K2
 refine x5x fun K4 hK4 => ?_
 refine y6y ?_
 refine x4x x7x (by rfl) ?_
 refine x1x rfl ?_
 refine x1x rfl ?_
 refine x1x rfl ?_
 refine q7q rfl rfl v3v rfl v8v rfl rfl hAl ?_
 refine x0x rfl v8v rfl rfl z1z rfl rfl ?_
 refine x0x rfl z1z rfl rfl y9y rfl rfl ?_
 refine p9p hAl rfl rfl y9y rfl rfl rfl rfl rfl rfl rfl (by simp only [List.set_cons_zero, List.set_cons_succ]; rfl) ?_
 refine x4x x7x (by rfl) ?_
 refine x1x rfl ?_
 refine u1u (b := 1) rfl rfl (by omega) ?_
 refine x2x rfl ?_
 refine x4x x7x (by rfl) ?_
 refine x1x rfl ?_
 refine x1x rfl ?_
 refine x1x rfl ?_
 refine q7q rfl rfl v3v rfl v8v rfl rfl hAl ?_
 refine x0x rfl v8v rfl rfl z1z rfl rfl ?_
 refine x0x rfl z1z rfl rfl y9y rfl rfl ?_
 refine p9p hAl rfl rfl y9y rfl rfl rfl rfl rfl rfl rfl (by simp only [List.set_cons_zero, List.set_cons_succ]; rfl) ?_
 refine x4x x7x (by rfl) ?_
 refine x1x rfl ?_
 refine u1u (b := 1) rfl rfl (by omega) ?_
 refine x2x rfl ?_
 refine x4x x7x (by rfl) ?_
 refine x1x rfl ?_
 refine x1x rfl ?_
 refine x1x rfl ?_
 refine q7q rfl rfl v3v rfl v8v rfl rfl hAl ?_
 refine x0x rfl v8v rfl rfl z1z rfl rfl ?_
 refine x0x rfl z1z rfl rfl y9y rfl rfl ?_
 refine p9p hAl rfl rfl y9y rfl rfl rfl rfl rfl rfl rfl (by simp only [List.set_cons_zero, List.set_cons_succ]; rfl) ?_
 refine x4x x7x (by rfl) ?_
 refine x1x rfl ?_
 refine u1u (b := 1) rfl rfl (by omega) ?_
 refine x2x rfl ?_
 refine x4x x7x (by rfl) ?_
 refine x1x rfl ?_
 refine x1x rfl ?_
 refine x1x rfl ?_
 refine q7q rfl rfl v3v rfl v8v rfl rfl hAl ?_
 refine x0x rfl v8v rfl rfl z1z rfl rfl ?_
 refine x0x rfl z1z rfl rfl y9y rfl rfl ?_
 refine p9p hAl rfl rfl y9y rfl rfl rfl rfl rfl rfl rfl (by simp only [List.set_cons_zero, List.set_cons_succ]; rfl) ?_
 refine x4x x7x (by rfl) ?_
 refine x1x rfl ?_
 refine u1u (b := 1) rfl rfl (by omega) ?_
 refine x2x rfl ?_
 refine x4x x7x (by rfl) ?_
 refine x1x rfl ?_
 refine x1x rfl ?_
 refine x1x rfl ?_
 refine q7q rfl rfl v3v rfl v8v rfl rfl hAl ?_
 refine x0x rfl v8v rfl rfl z1z rfl rfl ?_
 refine x0x rfl z1z rfl rfl y9y rfl rfl ?_
 refine p9p hAl rfl rfl y9y rfl rfl rfl rfl rfl rfl rfl (by simp only [List.set_cons_zero, List.set_cons_succ]; rfl) ?_
 refine x4x x7x (by rfl) ?_
 refine x1x rfl ?_
 refine u1u (b := 1) rfl rfl (by omega) ?_
 refine x2x rfl ?_
 refine x4x x7x (by rfl) ?_
 refine x1x rfl ?_
 refine x1x rfl ?_
 refine x1x rfl ?_
 refine q7q rfl rfl v3v rfl v8v rfl rfl hAl ?_
 refine x0x rfl v8v rfl rfl z1z rfl rfl ?_
 refine x0x rfl z1z rfl rfl y9y rfl rfl ?_
 refine p9p hAl rfl rfl y9y rfl rfl rfl rfl rfl rfl rfl (by simp only [List.set_cons_zero, List.set_cons_succ]; rfl) ?_
 refine x4x x7x (by rfl) ?_
 refine x1x rfl ?_
 refine u1u (b := 1) rfl rfl (by omega) ?_
 refine x2x rfl ?_
 refine x4x x7x (by rfl) ?_
 refine x1x rfl ?_
 refine x1x rfl ?_
 refine x1x rfl ?_
 refine q7q rfl rfl v3v rfl v8v rfl rfl hAl ?_
 refine x0x rfl v8v rfl rfl z1z rfl rfl ?_
 refine x0x rfl z1z rfl rfl y9y rfl rfl ?_
 refine p9p hAl rfl rfl y9y rfl rfl rfl rfl rfl rfl rfl (by simp only [List.set_cons_zero, List.set_cons_succ]; rfl) ?_
 refine x4x x7x (by rfl) ?_
 refine x1x rfl ?_
 refine u1u (b := 1) rfl rfl (by omega) ?_
 refine x2x rfl ?_
 refine x4x x7x (by rfl) ?_
 refine x1x rfl ?_
 refine x1x rfl ?_
 refine x1x rfl ?_
 refine q7q rfl rfl v3v rfl v8v rfl rfl hAl ?_
 refine x0x rfl v8v rfl rfl p5p rfl rfl ?_
 refine x0x rfl p5p rfl rfl y9y rfl rfl ?_
 refine p9p hAl rfl rfl y9y rfl rfl rfl rfl rfl rfl rfl (by simp only [List.set_cons_zero, List.set_cons_succ]; rfl) ?_
 refine x4x x7x (by rfl) ?_
 refine x1x rfl ?_
 refine u1u (b := 1) rfl rfl (by omega) ?_
 refine x2x rfl ?_
 refine x4x x7x (by rfl) ?_
 refine x1x rfl ?_
 refine x1x rfl ?_
 refine x1x rfl ?_
 refine q7q rfl rfl v3v rfl v8v rfl rfl hAl ?_
 refine x0x rfl v8v rfl rfl p5p rfl rfl ?_
 refine x0x rfl p5p rfl rfl y9y rfl rfl ?_
 refine p9p hAl rfl rfl y9y rfl rfl rfl rfl rfl rfl rfl (by simp only [List.set_cons_zero, List.set_cons_succ]; rfl) ?_
 refine x4x x7x (by rfl) ?_
 refine x1x rfl ?_
 refine u1u (b := 1) rfl rfl (by omega) ?_
 refine x2x rfl ?_
 refine x4x x7x (by rfl) ?_
 refine x1x rfl ?_
 refine x1x rfl ?_
 refine x1x rfl ?_
 refine q7q rfl rfl v3v rfl v8v rfl rfl hAl ?_
 refine x0x rfl v8v rfl rfl p5p rfl rfl ?_
 refine x0x rfl p5p rfl rfl y9y rfl rfl ?_
 refine p9p hAl rfl rfl y9y rfl rfl rfl rfl rfl rfl rfl (by simp only [List.set_cons_zero, List.set_cons_succ]; rfl) ?_
 refine x4x x7x (by rfl) ?_
 refine x1x rfl ?_
 refine u1u (b := 1) rfl rfl (by omega) ?_
 refine x2x rfl ?_
 refine b2p 0 10 1 hAl rfl rfl rfl rfl rfl ?_
 refine x4x x7x (by rfl) ?_
 refine x1x rfl ?_
 refine x1x rfl ?_
 refine q7q rfl rfl v3v rfl v8v rfl rfl hAl ?_
 refine x0x rfl v8v rfl rfl u6u rfl rfl ?_
 refine b5g hAl rfl u6u rfl rfl ?_
 refine x1x rfl ?_
 refine v4v [1] [_] (a3v p.sends (q + 10) (by omega)) rfl rfl rfl (by decide) rfl rfl (by repeat (first | exact InH.nil | refine InH.cons rfl ?_)) (by (simp only [pI, List.map_cons, List.map_nil, z8z, z9z, gl, nx, p4p, Nat.beq, Nat.add_eq, List.getD_cons_zero, List.getD_cons_succ, List.getD_nil, Bool.or_false, Bool.false_or, Bool.true_or, Bool.or_true, Nat.add_zero, Nat.zero_add]; rfl)) (by (simp only [pI, List.map_cons, List.map_nil, z8z, z9z, gl, nx, p4p, Nat.beq, Nat.add_eq, List.getD_cons_zero, List.getD_cons_succ, List.getD_nil, Bool.or_false, Bool.false_or, Bool.true_or, Bool.or_true, Nat.add_zero, Nat.zero_add]; rfl)) ?_
 refine x2x rfl ?_
 refine b5h 0 10 1 hAl rfl rfl rfl (u3u fun _ => rfl) rfl rfl ?_
 refine b2p 0 11 1 hAl rfl rfl rfl rfl rfl ?_
 refine y4y x7x (by rfl) ?_
 refine x1x rfl ?_
 refine x1x rfl ?_
 refine q7q rfl rfl v3v rfl v8v rfl rfl hAl ?_
 refine x0x rfl v8v rfl rfl u7u rfl rfl ?_
 refine b5g hAl rfl u7u rfl rfl ?_
 refine x1x rfl ?_
 refine v4v [1] [_] (a9u p.outs (q + 10 + szs zEv p.sends) (by omega)) rfl rfl rfl (by decide) rfl rfl (by repeat (first | exact InH.nil | refine InH.cons rfl ?_)) (by (simp only [pI, List.map_cons, List.map_nil, z8z, z9z, gl, nx, p4p, Nat.beq, Nat.add_eq, List.getD_cons_zero, List.getD_cons_succ, List.getD_nil, Bool.or_false, Bool.false_or, Bool.true_or, Bool.or_true, Nat.add_zero, Nat.zero_add]; rfl)) (by (simp only [pI, List.map_cons, List.map_nil, z8z, z9z, gl, nx, p4p, Nat.beq, Nat.add_eq, List.getD_cons_zero, List.getD_cons_succ, List.getD_nil, Bool.or_false, Bool.false_or, Bool.true_or, Bool.or_true, Nat.add_zero, Nat.zero_add]; rfl)) ?_
 refine x2x rfl ?_
 refine hK4 _ _ ?_
 clear hK4 K4
 refine b5h 0 11 1 hAl rfl rfl rfl (u3u fun _ => rfl) rfl rfl ?_
 refine y4y x7x (by rfl) ?_
 refine x1x rfl ?_
 refine u1u (b := 1) rfl rfl (by omega) ?_
 refine x2x rfl ?_
 exact ⟨i + 1, ⟨by omega, by omega⟩, [0, _], (Cov.cons' (t := 1) rfl (by rw [a0l zPa hp]; exact congrArg (fun v : Nat => AV.pv (.int .i64 (v : Int))) (by omega)) (Cov.cons (t := 5) rfl Cov.nil)), (Cov.cons (t := 0) rfl Cov.nil), (HE.kill rfl (HE.row rfl (by rw [p1p hmk, List.map_append, List.append_assoc]; rfl) HE.nil)), HE.nil, rfl⟩
theorem b4t (l : List La) (k : Nat) (hk : k + szs zLa l ≤ 1000000000) : Meth Tryz.prog 87 1 [0] [.ref 0 0, .pv (.int .i64 (k : Int))] [(0, (0, .row 65 5 (l.map a1i)))] (.pv (.int .i64 ((k + szs zLa l : Nat) : Int))) [(0, (0, .row 65 5 ((mks zLa kLa k l).map a1i)))] := by
 refine u8u x7x (fn := Tryz.f87) (by kernel_rfl) (by kernel_rfl) rfl (O0 := [.pv (.int .i64 ((k + szs zLa l : Nat) : Int))]) 1 1 (Nat.le_of_ble_eq_true rfl) (by rfl) (by repeat (first | exact BndH.nil | refine BndH.row (u3u fun _ => rfl) ?_)) (by repeat (first | exact BndH.nil | refine BndH.row (u3u fun _ => rfl) ?_)) (by rfl) fun γ => ?_
 show Ex Tryz.prog _ _ [(0, .ref 0 (γ 0)), (1, .pv (.int .i64 (k : Int)))] [(0, ((γ 0), .row 65 5 (l.map a1i))), (1, (0, .dead))] _
 have hml := a4p zLa kLa k l
 have hll := a4q zLa (fun p => by unfold zLa; omega) l
 refine x4x x7x (by rfl) ?_
 refine x2x rfl ?_
 refine x5x fun K1 hK1 => ?_
 refine x4x x7x (by rfl) ?_
 refine x2x rfl ?_
 refine y6y ?_
 refine u4u (ι := Nat) (fun i γ1 => [(1, .pv (.int .i64 ((k + szs zLa (l.take i) : Nat) : Int))), (5, .pv (.int .i64 (i : Int)))]) (fun i γ1 => [(1, ((γ1 1), .dead)), (0, ((γ 0), .row 65 5 (((mks zLa kLa k l).take i).map a1i ++ (l.drop i).map a1i)))]) (fun i => i ≤ l.length) (fun i => l.length - i) (Cov.cons (t := 0) rfl Cov.nil) HE.nil 0 (by omega) [0, _] (Cov.cons' (t := 1) rfl (by rw [List.take_zero]; rfl) (Cov.cons (t := 5) rfl Cov.nil)) (HE.kill rfl (HE.row rfl (by rw [List.take_zero, List.drop_zero]; rfl) HE.nil)) rfl fun i γ1 hi => ?_
 try dsimp only [List.cons_append, List.nil_append]
 refine x5x fun K2 hK2 => ?_
 refine x4x x7x (by rfl) ?_
 refine x1x rfl ?_
 refine x1x rfl ?_
 refine a0v (n := l.length) rfl w1w rfl rfl (by rw [List.length_append, List.length_map, List.length_map, List.length_take, List.length_drop]; omega) ?_
 refine y3y rfl rfl rfl ?_
 refine x8x rfl (fun hc3 => ?_) (fun hc3 => ?_)
 rotate_left
 ·try simp at hc3
  obtain rfl : i = l.length := by omega
  refine v0v ?_
  refine hK1 _ _ ?_
  clear hK2 K2 hK1 K1
  refine x4x x7x (by rfl) ?_
  refine x1x rfl ?_
  refine x2x rfl ?_
  refine y0y ?_
  exact ⟨.inr rfl, [γ 0], rfl, congrArg (fun v : Nat => some [AV.pv (.int .i64 (v : Int))]) (by rw [List.take_length]), HE.row rfl (by rw [List.take_of_length_le (by omega), List.drop_length, List.map_nil, List.append_nil]) HE.nil⟩
 try simp at hc3
 obtain ⟨p, hp⟩ : ∃ p, l[i]? = some p := ⟨_, List.getElem?_eq_getElem (by omega)⟩
 have hmk := a4r zLa kLa (k := k) hp
 have hat := a2t zLa hp
 have hzp : zLa p = 4 + szs zPa p.done := rfl
 have hAl : (((mks zLa kLa k l).take i).map a1i).length = i := by rw [List.length_map, List.length_take]; omega
 rw [q2q hp, List.map_cons]
 rw [show a1i p = [pI p.proc, pI p.base.x, pI p.base.y, pI p.base.count, .row .ow 78 12 (p.done.map a2l)] from rfl]
 obtain ⟨q, hq⟩ : ∃ q, q = k + szs zLa (l.take i) := ⟨_, rfl⟩
 rw [← hq] at hmk ⊢
 refine x9x ?_
 refine hK2 _ _ ?_
 clear hK2 K2
 refine x5x fun K4 hK4 => ?_
 refine y6y ?_
 refine x4x x7x (by rfl) ?_
 refine x1x rfl ?_
 refine x1x rfl ?_
 refine x1x rfl ?_
 refine q7q rfl rfl w1w rfl v2v rfl rfl hAl ?_
 refine x0x rfl v2v rfl rfl y9y rfl rfl ?_
 refine p9p hAl rfl rfl y9y rfl rfl rfl rfl rfl rfl rfl (by simp only [List.set_cons_zero, List.set_cons_succ]; rfl) ?_
 refine x4x x7x (by rfl) ?_
 refine x1x rfl ?_
 refine u1u (b := 1) rfl rfl (by omega) ?_
 refine x2x rfl ?_
 refine x4x x7x (by rfl) ?_
 refine x1x rfl ?_
 refine x1x rfl ?_
 refine x1x rfl ?_
 refine q7q rfl rfl w1w rfl v2v rfl rfl hAl ?_
 refine x0x rfl v2v rfl rfl p5p rfl rfl ?_
 refine x0x rfl p5p rfl rfl y9y rfl rfl ?_
 refine p9p hAl rfl rfl y9y rfl rfl rfl rfl rfl rfl rfl (by simp only [List.set_cons_zero, List.set_cons_succ]; rfl) ?_
 refine x4x x7x (by rfl) ?_
 refine x1x rfl ?_
 refine u1u (b := 1) rfl rfl (by omega) ?_
 refine x2x rfl ?_
 refine x4x x7x (by rfl) ?_
 refine x1x rfl ?_
 refine x1x rfl ?_
 refine x1x rfl ?_
 refine q7q rfl rfl w1w rfl v2v rfl rfl hAl ?_
 refine x0x rfl v2v rfl rfl p5p rfl rfl ?_
 refine x0x rfl p5p rfl rfl y9y rfl rfl ?_
 refine p9p hAl rfl rfl y9y rfl rfl rfl rfl rfl rfl rfl (by simp only [List.set_cons_zero, List.set_cons_succ]; rfl) ?_
 refine x4x x7x (by rfl) ?_
 refine x1x rfl ?_
 refine u1u (b := 1) rfl rfl (by omega) ?_
 refine x2x rfl ?_
 refine x4x x7x (by rfl) ?_
 refine x1x rfl ?_
 refine x1x rfl ?_
 refine x1x rfl ?_
 refine q7q rfl rfl w1w rfl v2v rfl rfl hAl ?_
 refine x0x rfl v2v rfl rfl p5p rfl rfl ?_
 refine x0x rfl p5p rfl rfl y9y rfl rfl ?_
 refine p9p hAl rfl rfl y9y rfl rfl rfl rfl rfl rfl rfl (by simp only [List.set_cons_zero, List.set_cons_succ]; rfl) ?_
 refine x4x x7x (by rfl) ?_
 refine x1x rfl ?_
 refine u1u (b := 1) rfl rfl (by omega) ?_
 refine x2x rfl ?_
 refine b2p 0 4 1 hAl rfl rfl rfl rfl rfl ?_
 refine y4y x7x (by rfl) ?_
 refine x1x rfl ?_
 refine x1x rfl ?_
 refine q7q rfl rfl w1w rfl v2v rfl rfl hAl ?_
 refine x0x rfl v2v rfl rfl v3v rfl rfl ?_
 refine b5g hAl rfl v3v rfl rfl ?_
 refine x1x rfl ?_
 refine v4v [1] [_] (b4s p.done (q + 4) (by omega)) rfl rfl rfl (by decide) rfl rfl (by repeat (first | exact InH.nil | refine InH.cons rfl ?_)) (by (simp only [pI, List.map_cons, List.map_nil, z8z, z9z, gl, nx, p4p, Nat.beq, Nat.add_eq, List.getD_cons_zero, List.getD_cons_succ, List.getD_nil, Bool.or_false, Bool.false_or, Bool.true_or, Bool.or_true, Nat.add_zero, Nat.zero_add]; rfl)) (by (simp only [pI, List.map_cons, List.map_nil, z8z, z9z, gl, nx, p4p, Nat.beq, Nat.add_eq, List.getD_cons_zero, List.getD_cons_succ, List.getD_nil, Bool.or_false, Bool.false_or, Bool.true_or, Bool.or_true, Nat.add_zero, Nat.zero_add]; rfl)) ?_
 refine x2x rfl ?_
 refine hK4 _ _ ?_
 clear hK4 K4
 refine b5h 0 4 1 hAl rfl rfl rfl (u3u fun _ => rfl) rfl rfl ?_
 refine y4y x7x (by rfl) ?_
 refine x1x rfl ?_
 refine u1u (b := 1) rfl rfl (by omega) ?_
 refine x2x rfl ?_
 exact ⟨i + 1, ⟨by omega, by omega⟩, [0, _], (Cov.cons' (t := 1) rfl (by rw [a0l zLa hp]; exact congrArg (fun v : Nat => AV.pv (.int .i64 (v : Int))) (by omega)) (Cov.cons (t := 5) rfl Cov.nil)), (Cov.cons (t := 0) rfl Cov.nil), (HE.kill rfl (HE.row rfl (by rw [p1p hmk, List.map_append, List.append_assoc]; rfl) HE.nil)), HE.nil, rfl⟩
theorem b4u (l : List Vi) (k : Nat) (hk : k + szs zVi l ≤ 1000000000) : Meth Tryz.prog 89 1 [0] [.ref 0 0, .pv (.int .i64 (k : Int))] [(0, (0, .row 141 3 (l.map a1j)))] (.pv (.int .i64 ((k + szs zVi l : Nat) : Int))) [(0, (0, .row 141 3 ((mks zVi kVi k l).map a1j)))] := by
 refine u8u x7x (fn := Tryz.f89) (by kernel_rfl) (by kernel_rfl) rfl (O0 := [.pv (.int .i64 ((k + szs zVi l : Nat) : Int))]) 1 1 (Nat.le_of_ble_eq_true rfl) (by rfl) (by repeat (first | exact BndH.nil | refine BndH.row (u3u fun _ => rfl) ?_)) (by repeat (first | exact BndH.nil | refine BndH.row (u3u fun _ => rfl) ?_)) (by rfl) fun γ => ?_
 show Ex Tryz.prog _ _ [(0, .ref 0 (γ 0)), (1, .pv (.int .i64 (k : Int)))] [(0, ((γ 0), .row 141 3 (l.map a1j))), (1, (0, .dead))] _
 have hml := a4p zVi kVi k l
 have hll := a4q zVi (fun p => by unfold zVi; omega) l
 refine x4x x7x (by rfl) ?_
 refine x2x rfl ?_
 refine x5x fun K1 hK1 => ?_
 refine x4x x7x (by rfl) ?_
 refine x2x rfl ?_
 refine y6y ?_
 refine u4u (ι := Nat) (fun i γ1 => [(1, .pv (.int .i64 ((k + szs zVi (l.take i) : Nat) : Int))), (5, .pv (.int .i64 (i : Int)))]) (fun i γ1 => [(1, ((γ1 1), .dead)), (0, ((γ 0), .row 141 3 (((mks zVi kVi k l).take i).map a1j ++ (l.drop i).map a1j)))]) (fun i => i ≤ l.length) (fun i => l.length - i) (Cov.cons (t := 0) rfl Cov.nil) HE.nil 0 (by omega) [0, _] (Cov.cons' (t := 1) rfl (by rw [List.take_zero]; rfl) (Cov.cons (t := 5) rfl Cov.nil)) (HE.kill rfl (HE.row rfl (by rw [List.take_zero, List.drop_zero]; rfl) HE.nil)) rfl fun i γ1 hi => ?_
 try dsimp only [List.cons_append, List.nil_append]
 refine x5x fun K2 hK2 => ?_
 refine x4x x7x (by rfl) ?_
 refine x1x rfl ?_
 refine x1x rfl ?_
 refine a0v (n := l.length) rfl p8p rfl rfl (by rw [List.length_append, List.length_map, List.length_map, List.length_take, List.length_drop]; omega) ?_
 refine y3y rfl rfl rfl ?_
 refine x8x rfl (fun hc3 => ?_) (fun hc3 => ?_)
 rotate_left
 ·try simp at hc3
  obtain rfl : i = l.length := by omega
  refine v0v ?_
  refine hK1 _ _ ?_
  clear hK2 K2 hK1 K1
  refine x4x x7x (by rfl) ?_
  refine x1x rfl ?_
  refine x2x rfl ?_
  refine y0y ?_
  exact ⟨.inr rfl, [γ 0], rfl, congrArg (fun v : Nat => some [AV.pv (.int .i64 (v : Int))]) (by rw [List.take_length]), HE.row rfl (by rw [List.take_of_length_le (by omega), List.drop_length, List.map_nil, List.append_nil]) HE.nil⟩
 try simp at hc3
 obtain ⟨p, hp⟩ : ∃ p, l[i]? = some p := ⟨_, List.getElem?_eq_getElem (by omega)⟩
 have hmk := a4r zVi kVi (k := k) hp
 have hat := a2t zVi hp
 have hzp : zVi p = 2 + szs zEv p.events := rfl
 have hAl : (((mks zVi kVi k l).take i).map a1j).length = i := by rw [List.length_map, List.length_take]; omega
 rw [q2q hp, List.map_cons]
 rw [show a1j p = [pI p.inc, pI p.version, .row .ow 76 7 (p.events.map w0w)] from rfl]
 obtain ⟨q, hq⟩ : ∃ q, q = k + szs zVi (l.take i) := ⟨_, rfl⟩
 rw [← hq] at hmk ⊢
 refine x9x ?_
 refine hK2 _ _ ?_
 clear hK2 K2
 refine x5x fun K4 hK4 => ?_
 refine y6y ?_
 refine x4x x7x (by rfl) ?_
 refine x1x rfl ?_
 refine x1x rfl ?_
 refine x1x rfl ?_
 refine q7q rfl rfl p8p rfl w5w rfl rfl hAl ?_
 refine x0x rfl w5w rfl rfl y9y rfl rfl ?_
 refine p9p hAl rfl rfl y9y rfl rfl rfl rfl rfl rfl rfl (by simp only [List.set_cons_zero, List.set_cons_succ]; rfl) ?_
 refine x4x x7x (by rfl) ?_
 refine x1x rfl ?_
 refine u1u (b := 1) rfl rfl (by omega) ?_
 refine x2x rfl ?_
 refine x4x x7x (by rfl) ?_
 refine x1x rfl ?_
 refine x1x rfl ?_
 refine x1x rfl ?_
 refine q7q rfl rfl p8p rfl w5w rfl rfl hAl ?_
 refine x0x rfl w5w rfl rfl y9y rfl rfl ?_
 refine p9p hAl rfl rfl y9y rfl rfl rfl rfl rfl rfl rfl (by simp only [List.set_cons_zero, List.set_cons_succ]; rfl) ?_
 refine x4x x7x (by rfl) ?_
 refine x1x rfl ?_
 refine u1u (b := 1) rfl rfl (by omega) ?_
 refine x2x rfl ?_
 refine b2p 0 2 1 hAl rfl rfl rfl rfl rfl ?_
 refine y4y x7x (by rfl) ?_
 refine x1x rfl ?_
 refine x1x rfl ?_
 refine q7q rfl rfl p8p rfl w5w rfl rfl hAl ?_
 refine x0x rfl w5w rfl rfl u6u rfl rfl ?_
 refine b5g hAl rfl u6u rfl rfl ?_
 refine x1x rfl ?_
 refine v4v [1] [_] (a3v p.events (q + 2) (by omega)) rfl rfl rfl (by decide) rfl rfl (by repeat (first | exact InH.nil | refine InH.cons rfl ?_)) (by (simp only [pI, List.map_cons, List.map_nil, z8z, z9z, gl, nx, p4p, Nat.beq, Nat.add_eq, List.getD_cons_zero, List.getD_cons_succ, List.getD_nil, Bool.or_false, Bool.false_or, Bool.true_or, Bool.or_true, Nat.add_zero, Nat.zero_add]; rfl)) (by (simp only [pI, List.map_cons, List.map_nil, z8z, z9z, gl, nx, p4p, Nat.beq, Nat.add_eq, List.getD_cons_zero, List.getD_cons_succ, List.getD_nil, Bool.or_false, Bool.false_or, Bool.true_or, Bool.or_true, Nat.add_zero, Nat.zero_add]; rfl)) ?_
 refine x2x rfl ?_
 refine hK4 _ _ ?_
 clear hK4 K4
 refine b5h 0 2 1 hAl rfl rfl rfl (u3u fun _ => rfl) rfl rfl ?_
 refine y4y x7x (by rfl) ?_
 refine x1x rfl ?_
 refine u1u (b := 1) rfl rfl (by omega) ?_
 refine x2x rfl ?_
 exact ⟨i + 1, ⟨by omega, by omega⟩, [0, _], (Cov.cons' (t := 1) rfl (by rw [a0l zVi hp]; exact congrArg (fun v : Nat => AV.pv (.int .i64 (v : Int))) (by omega)) (Cov.cons (t := 5) rfl Cov.nil)), (Cov.cons (t := 0) rfl Cov.nil), (HE.kill rfl (HE.row rfl (by rw [p1p hmk, List.map_append, List.append_assoc]; rfl) HE.nil)), HE.nil, rfl⟩
theorem a9v (n : Nd) (k : Nat) (hk : k + zNd n ≤ 1000000000) : Meth Tryz.prog 21 5 [0, 1, 2, 3, 4] [.agg [pI n.id, .pv (.bool n.up), pI n.inc, pI n.g, .ref 0 0, .ref 1 0, .ref 2 0, pI n.led, pI n.version, .ref 3 0, .ref 4 0, pI n.round, pI n.low], .pv (.int .i64 (k : Int))] [(0, (0, .row 65 5 (n.lanes.map a1i))), (1, (0, .row 76 7 (n.kept.map w0w))), (2, (0, .row 104 5 (n.outs.map r0r))), (3, (0, .row 141 3 (n.views.map a1j))), (4, (0, .row 3 1 (n.known.map a2w)))] (.pv (.int .i64 ((k + zNd n : Nat) : Int))) [(0, (0, .row 65 5 ((kNd k n).lanes.map a1i))), (1, (0, .row 76 7 ((kNd k n).kept.map w0w))), (2, (0, .row 104 5 ((kNd k n).outs.map r0r))), (3, (0, .row 141 3 ((kNd k n).views.map a1j))), (4, (0, .row 3 1 ((kNd k n).known.map a2w)))] := by
 refine u8u x7x (fn := Tryz.f21) (by kernel_rfl) (by kernel_rfl) rfl (O0 := [.pv (.int .i64 ((k + zNd n : Nat) : Int))]) 5 1 (Nat.le_of_ble_eq_true rfl) (by rfl) (by repeat (first | exact BndH.nil | refine BndH.row (u3u fun _ => rfl) ?_)) (by repeat (first | exact BndH.nil | refine BndH.row (u3u fun _ => rfl) ?_)) (by rfl) fun γ => ?_
 show Ex Tryz.prog _ _ [(0, .agg [pI n.id, .pv (.bool n.up), pI n.inc, pI n.g, .ref 0 (γ 0), .ref 1 (γ 1), .ref 2 (γ 2), pI n.led, pI n.version, .ref 3 (γ 3), .ref 4 (γ 4), pI n.round, pI n.low]), (1, .pv (.int .i64 (k : Int)))] [(0, ((γ 0), .row 65 5 (n.lanes.map a1i))), (1, ((γ 1), .row 76 7 (n.kept.map w0w))), (2, ((γ 2), .row 104 5 (n.outs.map r0r))), (3, ((γ 3), .row 141 3 (n.views.map a1j))), (4, ((γ 4), .row 3 1 (n.known.map a2w))), (5, (0, .dead))] _
 have hz : zNd n = szs zLa n.lanes + szs zEv n.kept + szs zOu n.outs + szs zVi n.views + szs zI n.known := rfl
 refine x4x x7x (by rfl) ?_
 refine v5v (id := 5) rfl rfl rfl ?_
 refine x2x rfl ?_
 refine x4x x7x (by rfl) ?_
 refine x0x rfl z5z rfl rfl w1w rfl rfl ?_
 refine x3x rfl w1w rfl rfl ?_
 refine x1x rfl ?_
 refine v4v [0] [_] (b4t n.lanes k (by omega)) rfl rfl rfl (by decide) rfl rfl (by repeat (first | exact InH.nil | refine InH.cons rfl ?_)) (by (simp only [pI, List.map_cons, List.map_nil, z8z, z9z, gl, nx, p4p, Nat.beq, Nat.add_eq, List.getD_cons_zero, List.getD_cons_succ, List.getD_nil, Bool.or_false, Bool.false_or, Bool.true_or, Bool.or_true, Nat.add_zero, Nat.zero_add]; rfl)) (by (simp only [pI, List.map_cons, List.map_nil, z8z, z9z, gl, nx, p4p, Nat.beq, Nat.add_eq, List.getD_cons_zero, List.getD_cons_succ, List.getD_nil, Bool.or_false, Bool.false_or, Bool.true_or, Bool.or_true, Nat.add_zero, Nat.zero_add]; rfl)) ?_
 refine x2x rfl ?_
 refine x4x x7x (by rfl) ?_
 refine x0x rfl z5z rfl rfl u6u rfl rfl ?_
 refine x3x rfl u6u rfl rfl ?_
 refine x1x rfl ?_
 refine v4v [1] [_] (a3v n.kept (k + szs zLa n.lanes) (by omega)) rfl rfl rfl (by decide) rfl rfl (by repeat (first | exact InH.nil | refine InH.cons rfl ?_)) (by (simp only [pI, List.map_cons, List.map_nil, z8z, z9z, gl, nx, p4p, Nat.beq, Nat.add_eq, List.getD_cons_zero, List.getD_cons_succ, List.getD_nil, Bool.or_false, Bool.false_or, Bool.true_or, Bool.or_true, Nat.add_zero, Nat.zero_add]; rfl)) (by (simp only [pI, List.map_cons, List.map_nil, z8z, z9z, gl, nx, p4p, Nat.beq, Nat.add_eq, List.getD_cons_zero, List.getD_cons_succ, List.getD_nil, Bool.or_false, Bool.false_or, Bool.true_or, Bool.or_true, Nat.add_zero, Nat.zero_add]; rfl)) ?_
 refine x2x rfl ?_
 refine x4x x7x (by rfl) ?_
 refine x0x rfl z5z rfl rfl u7u rfl rfl ?_
 refine x3x rfl u7u rfl rfl ?_
 refine x1x rfl ?_
 refine v4v [2] [_] (a9u n.outs (k + szs zLa n.lanes + szs zEv n.kept) (by omega)) rfl rfl rfl (by decide) rfl rfl (by repeat (first | exact InH.nil | refine InH.cons rfl ?_)) (by (simp only [pI, List.map_cons, List.map_nil, z8z, z9z, gl, nx, p4p, Nat.beq, Nat.add_eq, List.getD_cons_zero, List.getD_cons_succ, List.getD_nil, Bool.or_false, Bool.false_or, Bool.true_or, Bool.or_true, Nat.add_zero, Nat.zero_add]; rfl)) (by (simp only [pI, List.map_cons, List.map_nil, z8z, z9z, gl, nx, p4p, Nat.beq, Nat.add_eq, List.getD_cons_zero, List.getD_cons_succ, List.getD_nil, Bool.or_false, Bool.false_or, Bool.true_or, Bool.or_true, Nat.add_zero, Nat.zero_add]; rfl)) ?_
 refine x2x rfl ?_
 refine x4x x7x (by rfl) ?_
 refine x0x rfl z5z rfl rfl p8p rfl rfl ?_
 refine x3x rfl p8p rfl rfl ?_
 refine x1x rfl ?_
 refine v4v [3] [_] (b4u n.views (k + szs zLa n.lanes + szs zEv n.kept + szs zOu n.outs) (by omega)) rfl rfl rfl (by decide) rfl rfl (by repeat (first | exact InH.nil | refine InH.cons rfl ?_)) (by (simp only [pI, List.map_cons, List.map_nil, z8z, z9z, gl, nx, p4p, Nat.beq, Nat.add_eq, List.getD_cons_zero, List.getD_cons_succ, List.getD_nil, Bool.or_false, Bool.false_or, Bool.true_or, Bool.or_true, Nat.add_zero, Nat.zero_add]; rfl)) (by (simp only [pI, List.map_cons, List.map_nil, z8z, z9z, gl, nx, p4p, Nat.beq, Nat.add_eq, List.getD_cons_zero, List.getD_cons_succ, List.getD_nil, Bool.or_false, Bool.false_or, Bool.true_or, Bool.or_true, Nat.add_zero, Nat.zero_add]; rfl)) ?_
 refine x2x rfl ?_
 refine x4x x7x (by rfl) ?_
 refine x0x rfl z5z rfl rfl p3p rfl rfl ?_
 refine x3x rfl p3p rfl rfl ?_
 refine x1x rfl ?_
 refine v4v [4] [_] (b7l n.known (k + szs zLa n.lanes + szs zEv n.kept + szs zOu n.outs + szs zVi n.views) (by omega)) rfl rfl rfl (by decide) rfl rfl (by repeat (first | exact InH.nil | refine InH.cons rfl ?_)) (by (simp only [pI, List.map_cons, List.map_nil, z8z, z9z, gl, nx, p4p, Nat.beq, Nat.add_eq, List.getD_cons_zero, List.getD_cons_succ, List.getD_nil, Bool.or_false, Bool.false_or, Bool.true_or, Bool.or_true, Nat.add_zero, Nat.zero_add]; rfl)) (by (simp only [pI, List.map_cons, List.map_nil, z8z, z9z, gl, nx, p4p, Nat.beq, Nat.add_eq, List.getD_cons_zero, List.getD_cons_succ, List.getD_nil, Bool.or_false, Bool.false_or, Bool.true_or, Bool.or_true, Nat.add_zero, Nat.zero_add]; rfl)) ?_
 refine x2x rfl ?_
 refine x4x x7x (by rfl) ?_
 refine x1x rfl ?_
 refine x2x rfl ?_
 refine y0y ?_
 exact ⟨.inr rfl, [γ 0, γ 1, γ 2, γ 3, γ 4], rfl, congrArg (fun v : Nat => some [AV.pv (.int .i64 (v : Int))]) (by omega), HE.row rfl rfl (HE.row rfl rfl (HE.row rfl rfl (HE.row rfl rfl (HE.row rfl rfl HE.nil))))⟩
end
section
theorem b0x (a b : Ev) : a0o Tryz.prog 142 [.agg (w0w a), .agg (w0w b)] (.pv (.bool (decide (a = b)))) := by
 refine z4z x7x (fn := Tryz.f142) (by kernel_rfl) (by kernel_rfl) rfl (outs := [.pv (.bool (decide (a = b)))]) (by rfl) (Nat.le_of_ble_eq_true rfl) 2 ?_
 refine x4x x7x (by rfl) ?_
 refine v5v (id := 0) rfl rfl rfl ?_
 refine v5v (id := 1) rfl rfl rfl ?_
 refine x2x rfl ?_
 refine x5x fun K1 hK1 => ?_
 refine x4x x7x (by rfl) ?_
 refine x0x rfl z1z rfl rfl y9y rfl rfl ?_
 refine x3x rfl y9y rfl rfl ?_
 refine x0x rfl z1z rfl rfl y9y rfl rfl ?_
 refine x3x rfl y9y rfl rfl ?_
 refine y3y rfl rfl rfl ?_
 refine x8x rfl (fun hc2 => ?_) (fun hc2 => ?_)
 ·try simp at hc2
  refine x4x x7x (by rfl) ?_
  refine x2x rfl ?_
  refine y0y ⟨.inr rfl, ?_⟩
  clear hK1 K1
  refine z0z rfl ?_ rfl
  exact kF (by intro h; subst h; simp_all)
 try simp at hc2
 refine x9x ?_
 refine hK1 _ _ ?_
 clear hK1 K1
 refine x5x fun K3 hK3 => ?_
 refine x4x x7x (by rfl) ?_
 refine x0x rfl z1z rfl rfl y9y rfl rfl ?_
 refine x3x rfl y9y rfl rfl ?_
 refine x0x rfl z1z rfl rfl y9y rfl rfl ?_
 refine x3x rfl y9y rfl rfl ?_
 refine y3y rfl rfl rfl ?_
 refine x8x rfl (fun hc4 => ?_) (fun hc4 => ?_)
 ·try simp at hc4
  refine x4x x7x (by rfl) ?_
  refine x2x rfl ?_
  refine y0y ⟨.inr rfl, ?_⟩
  clear hK3 K3
  refine z0z rfl ?_ rfl
  exact kF (by intro h; subst h; simp_all)
 try simp at hc4
 refine x9x ?_
 refine hK3 _ _ ?_
 clear hK3 K3
 refine x5x fun K5 hK5 => ?_
 refine x4x x7x (by rfl) ?_
 refine x0x rfl z1z rfl rfl y9y rfl rfl ?_
 refine x3x rfl y9y rfl rfl ?_
 refine x0x rfl z1z rfl rfl y9y rfl rfl ?_
 refine x3x rfl y9y rfl rfl ?_
 refine y3y rfl rfl rfl ?_
 refine x8x rfl (fun hc6 => ?_) (fun hc6 => ?_)
 ·try simp at hc6
  refine x4x x7x (by rfl) ?_
  refine x2x rfl ?_
  refine y0y ⟨.inr rfl, ?_⟩
  clear hK5 K5
  refine z0z rfl ?_ rfl
  exact kF (by intro h; subst h; simp_all)
 try simp at hc6
 refine x9x ?_
 refine hK5 _ _ ?_
 clear hK5 K5
 refine x5x fun K7 hK7 => ?_
 refine x4x x7x (by rfl) ?_
 refine x0x rfl z1z rfl rfl y9y rfl rfl ?_
 refine x3x rfl y9y rfl rfl ?_
 refine x0x rfl z1z rfl rfl y9y rfl rfl ?_
 refine x3x rfl y9y rfl rfl ?_
 refine y3y rfl rfl rfl ?_
 refine x8x rfl (fun hc8 => ?_) (fun hc8 => ?_)
 ·try simp at hc8
  refine x4x x7x (by rfl) ?_
  refine x2x rfl ?_
  refine y0y ⟨.inr rfl, ?_⟩
  clear hK7 K7
  refine z0z rfl ?_ rfl
  exact kF (by intro h; subst h; simp_all)
 try simp at hc8
 refine x9x ?_
 refine hK7 _ _ ?_
 clear hK7 K7
 refine x5x fun K9 hK9 => ?_
 refine x4x x7x (by rfl) ?_
 refine x0x rfl z1z rfl rfl y9y rfl rfl ?_
 refine x3x rfl y9y rfl rfl ?_
 refine x0x rfl z1z rfl rfl y9y rfl rfl ?_
 refine x3x rfl y9y rfl rfl ?_
 refine y3y rfl rfl rfl ?_
 refine x8x rfl (fun hc10 => ?_) (fun hc10 => ?_)
 ·try simp at hc10
  refine x4x x7x (by rfl) ?_
  refine x2x rfl ?_
  refine y0y ⟨.inr rfl, ?_⟩
  clear hK9 K9
  refine z0z rfl ?_ rfl
  exact kF (by intro h; subst h; simp_all)
 try simp at hc10
 refine x9x ?_
 refine hK9 _ _ ?_
 clear hK9 K9
 refine x5x fun K11 hK11 => ?_
 refine x4x x7x (by rfl) ?_
 refine x0x rfl z1z rfl rfl y9y rfl rfl ?_
 refine x3x rfl y9y rfl rfl ?_
 refine x0x rfl z1z rfl rfl y9y rfl rfl ?_
 refine x3x rfl y9y rfl rfl ?_
 refine y3y rfl rfl rfl ?_
 refine x8x rfl (fun hc12 => ?_) (fun hc12 => ?_)
 ·try simp at hc12
  refine x4x x7x (by rfl) ?_
  refine x2x rfl ?_
  refine y0y ⟨.inr rfl, ?_⟩
  clear hK11 K11
  refine z0z rfl ?_ rfl
  exact kF (by intro h; subst h; simp_all)
 try simp at hc12
 refine x9x ?_
 refine hK11 _ _ ?_
 clear hK11 K11
 refine x5x fun K13 hK13 => ?_
 refine x4x x7x (by rfl) ?_
 refine x0x rfl z1z rfl rfl y9y rfl rfl ?_
 refine x3x rfl y9y rfl rfl ?_
 refine x0x rfl z1z rfl rfl y9y rfl rfl ?_
 refine x3x rfl y9y rfl rfl ?_
 refine y3y rfl rfl rfl ?_
 refine x8x rfl (fun hc14 => ?_) (fun hc14 => ?_)
 ·try simp at hc14
  refine x4x x7x (by rfl) ?_
  refine x2x rfl ?_
  refine y0y ⟨.inr rfl, ?_⟩
  clear hK13 K13
  refine z0z rfl ?_ rfl
  exact kF (by intro h; subst h; simp_all)
 try simp at hc14
 refine x9x ?_
 refine hK13 _ _ ?_
 clear hK13 K13
 refine x4x x7x (by rfl) ?_
 refine x2x rfl ?_
 refine y0y ⟨.inr rfl, ?_⟩
 refine z0z rfl ?_ rfl
 exact kT (by cases a; cases b; simp_all)
theorem c4b (a b : Ou) : a0o Tryz.prog 177 [.agg (r0r a), .agg (r0r b)] (.pv (.bool (decide (a = b)))) := by
 refine z4z x7x (fn := Tryz.f177) (by kernel_rfl) (by kernel_rfl) rfl (outs := [.pv (.bool (decide (a = b)))]) (by rfl) (Nat.le_of_ble_eq_true rfl) 2 ?_
 refine x4x x7x (by rfl) ?_
 refine v5v (id := 0) rfl rfl rfl ?_
 refine v5v (id := 1) rfl rfl rfl ?_
 refine x2x rfl ?_
 refine x5x fun K1 hK1 => ?_
 refine x4x x7x (by rfl) ?_
 refine x0x rfl u0u rfl rfl y9y rfl rfl ?_
 refine x3x rfl y9y rfl rfl ?_
 refine x0x rfl u0u rfl rfl y9y rfl rfl ?_
 refine x3x rfl y9y rfl rfl ?_
 refine y3y rfl rfl rfl ?_
 refine x8x rfl (fun hc2 => ?_) (fun hc2 => ?_)
 ·try simp at hc2
  refine x4x x7x (by rfl) ?_
  refine x2x rfl ?_
  refine y0y ⟨.inr rfl, ?_⟩
  clear hK1 K1
  refine z0z rfl ?_ rfl
  exact kF (by intro h; subst h; simp_all)
 try simp at hc2
 refine x9x ?_
 refine hK1 _ _ ?_
 clear hK1 K1
 refine x5x fun K3 hK3 => ?_
 refine x4x x7x (by rfl) ?_
 refine x0x rfl u0u rfl rfl y9y rfl rfl ?_
 refine x3x rfl y9y rfl rfl ?_
 refine x0x rfl u0u rfl rfl y9y rfl rfl ?_
 refine x3x rfl y9y rfl rfl ?_
 refine y3y rfl rfl rfl ?_
 refine x8x rfl (fun hc4 => ?_) (fun hc4 => ?_)
 ·try simp at hc4
  refine x4x x7x (by rfl) ?_
  refine x2x rfl ?_
  refine y0y ⟨.inr rfl, ?_⟩
  clear hK3 K3
  refine z0z rfl ?_ rfl
  exact kF (by intro h; subst h; simp_all)
 try simp at hc4
 refine x9x ?_
 refine hK3 _ _ ?_
 clear hK3 K3
 refine x5x fun K5 hK5 => ?_
 refine x4x x7x (by rfl) ?_
 refine x0x rfl u0u rfl rfl y9y rfl rfl ?_
 refine x3x rfl y9y rfl rfl ?_
 refine x0x rfl u0u rfl rfl y9y rfl rfl ?_
 refine x3x rfl y9y rfl rfl ?_
 refine y3y rfl rfl rfl ?_
 refine x8x rfl (fun hc6 => ?_) (fun hc6 => ?_)
 ·try simp at hc6
  refine x4x x7x (by rfl) ?_
  refine x2x rfl ?_
  refine y0y ⟨.inr rfl, ?_⟩
  clear hK5 K5
  refine z0z rfl ?_ rfl
  exact kF (by intro h; subst h; simp_all)
 try simp at hc6
 refine x9x ?_
 refine hK5 _ _ ?_
 clear hK5 K5
 refine x5x fun K7 hK7 => ?_
 refine x4x x7x (by rfl) ?_
 refine x0x rfl u0u rfl rfl y9y rfl rfl ?_
 refine x3x rfl y9y rfl rfl ?_
 refine x0x rfl u0u rfl rfl y9y rfl rfl ?_
 refine x3x rfl y9y rfl rfl ?_
 refine y3y rfl rfl rfl ?_
 refine x8x rfl (fun hc8 => ?_) (fun hc8 => ?_)
 ·try simp at hc8
  refine x4x x7x (by rfl) ?_
  refine x2x rfl ?_
  refine y0y ⟨.inr rfl, ?_⟩
  clear hK7 K7
  refine z0z rfl ?_ rfl
  exact kF (by intro h; subst h; simp_all)
 try simp at hc8
 refine x9x ?_
 refine hK7 _ _ ?_
 clear hK7 K7
 refine x5x fun K9 hK9 => ?_
 refine x4x x7x (by rfl) ?_
 refine x0x rfl u0u rfl rfl y9y rfl rfl ?_
 refine x3x rfl y9y rfl rfl ?_
 refine x0x rfl u0u rfl rfl y9y rfl rfl ?_
 refine x3x rfl y9y rfl rfl ?_
 refine y3y rfl rfl rfl ?_
 refine x8x rfl (fun hc10 => ?_) (fun hc10 => ?_)
 ·try simp at hc10
  refine x4x x7x (by rfl) ?_
  refine x2x rfl ?_
  refine y0y ⟨.inr rfl, ?_⟩
  clear hK9 K9
  refine z0z rfl ?_ rfl
  exact kF (by intro h; subst h; simp_all)
 try simp at hc10
 refine x9x ?_
 refine hK9 _ _ ?_
 clear hK9 K9
 refine x4x x7x (by rfl) ?_
 refine x2x rfl ?_
 refine y0y ⟨.inr rfl, ?_⟩
 refine z0z rfl ?_ rfl
 exact kT (by cases a; cases b; simp_all)
theorem b0y (a b : St) : a0o Tryz.prog 224 [.agg (a0b a), .agg (a0b b)] (.pv (.bool (decide (a = b)))) := by
 refine z4z x7x (fn := Tryz.f224) (by kernel_rfl) (by kernel_rfl) rfl (outs := [.pv (.bool (decide (a = b)))]) (by rfl) (Nat.le_of_ble_eq_true rfl) 2 ?_
 refine x4x x7x (by rfl) ?_
 refine v5v (id := 0) rfl rfl rfl ?_
 refine v5v (id := 1) rfl rfl rfl ?_
 refine x2x rfl ?_
 refine x5x fun K1 hK1 => ?_
 refine x4x x7x (by rfl) ?_
 refine x0x rfl p5p rfl rfl y9y rfl rfl ?_
 refine x3x rfl y9y rfl rfl ?_
 refine x0x rfl p5p rfl rfl y9y rfl rfl ?_
 refine x3x rfl y9y rfl rfl ?_
 refine y3y rfl rfl rfl ?_
 refine x8x rfl (fun hc2 => ?_) (fun hc2 => ?_)
 ·try simp at hc2
  refine x4x x7x (by rfl) ?_
  refine x2x rfl ?_
  refine y0y ⟨.inr rfl, ?_⟩
  clear hK1 K1
  refine z0z rfl ?_ rfl
  exact kF (by intro h; subst h; simp_all)
 try simp at hc2
 refine x9x ?_
 refine hK1 _ _ ?_
 clear hK1 K1
 refine x5x fun K3 hK3 => ?_
 refine x4x x7x (by rfl) ?_
 refine x0x rfl p5p rfl rfl y9y rfl rfl ?_
 refine x3x rfl y9y rfl rfl ?_
 refine x0x rfl p5p rfl rfl y9y rfl rfl ?_
 refine x3x rfl y9y rfl rfl ?_
 refine y3y rfl rfl rfl ?_
 refine x8x rfl (fun hc4 => ?_) (fun hc4 => ?_)
 ·try simp at hc4
  refine x4x x7x (by rfl) ?_
  refine x2x rfl ?_
  refine y0y ⟨.inr rfl, ?_⟩
  clear hK3 K3
  refine z0z rfl ?_ rfl
  exact kF (by intro h; subst h; simp_all)
 try simp at hc4
 refine x9x ?_
 refine hK3 _ _ ?_
 clear hK3 K3
 refine x5x fun K5 hK5 => ?_
 refine x4x x7x (by rfl) ?_
 refine x0x rfl p5p rfl rfl y9y rfl rfl ?_
 refine x3x rfl y9y rfl rfl ?_
 refine x0x rfl p5p rfl rfl y9y rfl rfl ?_
 refine x3x rfl y9y rfl rfl ?_
 refine y3y rfl rfl rfl ?_
 refine x8x rfl (fun hc6 => ?_) (fun hc6 => ?_)
 ·try simp at hc6
  refine x4x x7x (by rfl) ?_
  refine x2x rfl ?_
  refine y0y ⟨.inr rfl, ?_⟩
  clear hK5 K5
  refine z0z rfl ?_ rfl
  exact kF (by intro h; subst h; simp_all)
 try simp at hc6
 refine x9x ?_
 refine hK5 _ _ ?_
 clear hK5 K5
 refine x4x x7x (by rfl) ?_
 refine x2x rfl ?_
 refine y0y ⟨.inr rfl, ?_⟩
 refine z0z rfl ?_ rfl
 exact kT (by cases a; cases b; simp_all)
theorem c1j (c c' : Bool) (l l' : List Int) : a0o Tryz.prog 19 [a4i c l, a4i c' l'] (.pv (.bool (decide (l = l')))) := by
 refine z4z x7x (fn := Tryz.f19) (by kernel_rfl) (by kernel_rfl) rfl (outs := [.pv (.bool (decide (l = l')))]) (by rfl) (Nat.le_of_ble_eq_true rfl) 0 ?_
 refine w9w 0 rfl fun hlen => ?_
 refine x4x x7x (by rfl) ?_
 refine x2x rfl ?_
 refine x5x fun K1 hK1 => ?_
 refine x4x x7x (by rfl) ?_
 refine x1x rfl ?_
 refine u2u rfl p3p rfl ?_
 refine x1x rfl ?_
 refine u2u rfl p3p rfl ?_
 refine y3y rfl rfl rfl ?_
 refine x8x rfl (fun hc2 => ?_) (fun hc2 => ?_)
 ·try simp at hc2
  refine x4x x7x (by rfl) ?_
  refine x2x rfl ?_
  refine y0y ⟨.inr rfl, ?_⟩
  clear hK1 K1
  refine z0z rfl ?_ rfl
  exact d6o (by omega)
 try simp at hc2
 refine x9x ?_
 refine hK1 _ _ ?_
 clear hK1 K1
 refine x5x fun K3 hK3 => ?_
 refine x4x x7x (by rfl) ?_
 refine x2x rfl ?_
 refine y6y ?_
 refine u4u (ι := Nat) (fun i γ1 => [(5, .pv (.int .i64 (i : Int)))]) (fun i γ1 => []) (fun i => i ≤ l.length ∧ l.length = l'.length ∧ l.take i = l'.take i) (fun i => l.length - i) (Cov.cons (t := 0) rfl (Cov.cons (t := 1) rfl Cov.nil)) HE.nil 0 ⟨by omega, by omega, rfl⟩ [] (Cov.cons (t := 5) rfl Cov.nil) HE.nil rfl fun i γ1 hi => ?_
 try dsimp only [List.cons_append, List.nil_append]
 obtain ⟨h1, h2, h3⟩ := hi
 refine x5x fun K4 hK4 => ?_
 refine x4x x7x (by rfl) ?_
 refine x1x rfl ?_
 refine x1x rfl ?_
 refine u2u rfl p3p rfl ?_
 refine y3y rfl rfl rfl ?_
 refine x8x rfl (fun hc5 => ?_) (fun hc5 => ?_)
 rotate_left
 ·try simp at hc5
  refine v0v ?_
  refine hK3 _ _ ?_
  clear hK4 K4 hK3 K3
  refine x4x x7x (by rfl) ?_
  refine x2x rfl ?_
  refine y0y ⟨.inr rfl, ?_⟩
  refine z0z rfl ?_ rfl
  exact eqT h3 (by omega) (by omega)
 try simp at hc5
 refine x9x ?_
 refine hK4 _ _ ?_
 clear hK4 K4
 refine x5x fun K6 hK6 => ?_
 refine y6y ?_
 refine p6p x7x r2r (by rfl) ?_
 refine x1x rfl ?_
 refine x1x rfl ?_
 obtain ⟨x, hx⟩ : ∃ x, l[i]? = some x := ⟨_, List.getElem?_eq_getElem (by omega)⟩
 refine z7z rfl rfl p3p rfl y9y rfl hx ?_
 refine z3z rfl y9y rfl ?_
 refine x1x rfl ?_
 refine x1x rfl ?_
 obtain ⟨y, hy⟩ : ∃ y, l'[i]? = some y := ⟨_, List.getElem?_eq_getElem (by omega)⟩
 refine z7z rfl rfl p3p rfl y9y rfl hy ?_
 refine z3z rfl y9y rfl ?_
 refine y3y rfl rfl rfl ?_
 refine ⟨by kernel_rfl, ?_⟩
 refine x8x rfl (fun hc7 => ?_) (fun hc7 => ?_)
 rotate_left
 ·try simp at hc7
  refine x9x ?_
  refine hK6 _ _ ?_
  clear hK6 K6
  refine y4y x7x (by rfl) ?_
  refine x1x rfl ?_
  refine a2m (.int .i64 ((i + 1 : Nat) : Int)) rfl rfl rfl (b0n rfl (by omega) (by omega) (by have := hlen; omega)) ?_
  refine x2x rfl ?_
  exact ⟨i + 1, ⟨⟨by omega, h2, a7v h3 hx hy (by assumption)⟩, by omega⟩, [], (Cov.cons (t := 5) rfl Cov.nil), (Cov.cons (t := 0) rfl (Cov.cons (t := 1) rfl Cov.nil)), HE.nil, HE.nil, rfl⟩
 try simp at hc7
 refine x4x x7x (by rfl) ?_
 refine x2x rfl ?_
 refine y0y ⟨.inr rfl, ?_⟩
 clear hK6 K6 hK3 K3
 refine z0z rfl ?_ rfl
 exact d6p hx hy (by assumption)
theorem a5y (c c' : Bool) (l l' : List Ev) : a0o Tryz.prog 55 [a0i c l, a0i c' l'] (.pv (.bool (decide (l = l')))) := by
 refine z4z x7x (fn := Tryz.f55) (by kernel_rfl) (by kernel_rfl) rfl (outs := [.pv (.bool (decide (l = l')))]) (by rfl) (Nat.le_of_ble_eq_true rfl) 0 ?_
 refine w9w 0 rfl fun hlen => ?_
 refine x4x x7x (by rfl) ?_
 refine x2x rfl ?_
 refine x5x fun K1 hK1 => ?_
 refine x4x x7x (by rfl) ?_
 refine x1x rfl ?_
 refine u2u rfl u6u rfl ?_
 refine x1x rfl ?_
 refine u2u rfl u6u rfl ?_
 refine y3y rfl rfl rfl ?_
 refine x8x rfl (fun hc2 => ?_) (fun hc2 => ?_)
 ·try simp at hc2
  refine x4x x7x (by rfl) ?_
  refine x2x rfl ?_
  refine y0y ⟨.inr rfl, ?_⟩
  clear hK1 K1
  refine z0z rfl ?_ rfl
  exact d6o (by omega)
 try simp at hc2
 refine x9x ?_
 refine hK1 _ _ ?_
 clear hK1 K1
 refine x5x fun K3 hK3 => ?_
 refine x4x x7x (by rfl) ?_
 refine x2x rfl ?_
 refine y6y ?_
 refine u4u (ι := Nat) (fun i γ1 => [(5, .pv (.int .i64 (i : Int)))]) (fun i γ1 => []) (fun i => i ≤ l.length ∧ l.length = l'.length ∧ l.take i = l'.take i) (fun i => l.length - i) (Cov.cons (t := 0) rfl (Cov.cons (t := 1) rfl Cov.nil)) HE.nil 0 ⟨by omega, by omega, rfl⟩ [] (Cov.cons (t := 5) rfl Cov.nil) HE.nil rfl fun i γ1 hi => ?_
 try dsimp only [List.cons_append, List.nil_append]
 obtain ⟨h1, h2, h3⟩ := hi
 refine x5x fun K4 hK4 => ?_
 refine x4x x7x (by rfl) ?_
 refine x1x rfl ?_
 refine x1x rfl ?_
 refine u2u rfl u6u rfl ?_
 refine y3y rfl rfl rfl ?_
 refine x8x rfl (fun hc5 => ?_) (fun hc5 => ?_)
 rotate_left
 ·try simp at hc5
  refine v0v ?_
  refine hK3 _ _ ?_
  clear hK4 K4 hK3 K3
  refine x4x x7x (by rfl) ?_
  refine x2x rfl ?_
  refine y0y ⟨.inr rfl, ?_⟩
  refine z0z rfl ?_ rfl
  exact eqT h3 (by omega) (by omega)
 try simp at hc5
 refine x9x ?_
 refine hK4 _ _ ?_
 clear hK4 K4
 refine x5x fun K6 hK6 => ?_
 refine y6y ?_
 refine p6p x7x r2r (by rfl) ?_
 refine x1x rfl ?_
 refine x1x rfl ?_
 obtain ⟨x, hx⟩ : ∃ x, l[i]? = some x := ⟨_, List.getElem?_eq_getElem (by omega)⟩
 refine z7z rfl rfl u6u rfl z1z rfl hx ?_
 refine z6z rfl z1z rfl rfl ?_
 refine x1x rfl ?_
 refine x1x rfl ?_
 obtain ⟨y, hy⟩ : ∃ y, l'[i]? = some y := ⟨_, List.getElem?_eq_getElem (by omega)⟩
 refine z7z rfl rfl u6u rfl z1z rfl hy ?_
 refine z6z rfl z1z rfl rfl ?_
 refine y7y rfl rfl rfl (b0x ..) ?_
 refine w2w rfl ?_
 refine ⟨by kernel_rfl, ?_⟩
 refine x8x rfl (fun hc7 => ?_) (fun hc7 => ?_)
 rotate_left
 ·try simp at hc7
  refine x9x ?_
  refine hK6 _ _ ?_
  clear hK6 K6
  refine y4y x7x (by rfl) ?_
  refine x1x rfl ?_
  refine a2m (.int .i64 ((i + 1 : Nat) : Int)) rfl rfl rfl (b0n rfl (by omega) (by omega) (by have := hlen; omega)) ?_
  refine x2x rfl ?_
  exact ⟨i + 1, ⟨⟨by omega, h2, a7v h3 hx hy (by assumption)⟩, by omega⟩, [], (Cov.cons (t := 5) rfl Cov.nil), (Cov.cons (t := 0) rfl (Cov.cons (t := 1) rfl Cov.nil)), HE.nil, HE.nil, rfl⟩
 try simp at hc7
 refine x4x x7x (by rfl) ?_
 refine x2x rfl ?_
 refine y0y ⟨.inr rfl, ?_⟩
 clear hK6 K6 hK3 K3
 refine z0z rfl ?_ rfl
 exact d6p hx hy (by assumption)
theorem b3a (c c' : Bool) (l l' : List Ou) : a0o Tryz.prog 85 [a0z c l, a0z c' l'] (.pv (.bool (decide (l = l')))) := by
 refine z4z x7x (fn := Tryz.f85) (by kernel_rfl) (by kernel_rfl) rfl (outs := [.pv (.bool (decide (l = l')))]) (by rfl) (Nat.le_of_ble_eq_true rfl) 0 ?_
 refine w9w 0 rfl fun hlen => ?_
 refine x4x x7x (by rfl) ?_
 refine x2x rfl ?_
 refine x5x fun K1 hK1 => ?_
 refine x4x x7x (by rfl) ?_
 refine x1x rfl ?_
 refine u2u rfl u7u rfl ?_
 refine x1x rfl ?_
 refine u2u rfl u7u rfl ?_
 refine y3y rfl rfl rfl ?_
 refine x8x rfl (fun hc2 => ?_) (fun hc2 => ?_)
 ·try simp at hc2
  refine x4x x7x (by rfl) ?_
  refine x2x rfl ?_
  refine y0y ⟨.inr rfl, ?_⟩
  clear hK1 K1
  refine z0z rfl ?_ rfl
  exact d6o (by omega)
 try simp at hc2
 refine x9x ?_
 refine hK1 _ _ ?_
 clear hK1 K1
 refine x5x fun K3 hK3 => ?_
 refine x4x x7x (by rfl) ?_
 refine x2x rfl ?_
 refine y6y ?_
 refine u4u (ι := Nat) (fun i γ1 => [(5, .pv (.int .i64 (i : Int)))]) (fun i γ1 => []) (fun i => i ≤ l.length ∧ l.length = l'.length ∧ l.take i = l'.take i) (fun i => l.length - i) (Cov.cons (t := 0) rfl (Cov.cons (t := 1) rfl Cov.nil)) HE.nil 0 ⟨by omega, by omega, rfl⟩ [] (Cov.cons (t := 5) rfl Cov.nil) HE.nil rfl fun i γ1 hi => ?_
 try dsimp only [List.cons_append, List.nil_append]
 obtain ⟨h1, h2, h3⟩ := hi
 refine x5x fun K4 hK4 => ?_
 refine x4x x7x (by rfl) ?_
 refine x1x rfl ?_
 refine x1x rfl ?_
 refine u2u rfl u7u rfl ?_
 refine y3y rfl rfl rfl ?_
 refine x8x rfl (fun hc5 => ?_) (fun hc5 => ?_)
 rotate_left
 ·try simp at hc5
  refine v0v ?_
  refine hK3 _ _ ?_
  clear hK4 K4 hK3 K3
  refine x4x x7x (by rfl) ?_
  refine x2x rfl ?_
  refine y0y ⟨.inr rfl, ?_⟩
  refine z0z rfl ?_ rfl
  exact eqT h3 (by omega) (by omega)
 try simp at hc5
 refine x9x ?_
 refine hK4 _ _ ?_
 clear hK4 K4
 refine x5x fun K6 hK6 => ?_
 refine y6y ?_
 refine p6p x7x r2r (by rfl) ?_
 refine x1x rfl ?_
 refine x1x rfl ?_
 obtain ⟨x, hx⟩ : ∃ x, l[i]? = some x := ⟨_, List.getElem?_eq_getElem (by omega)⟩
 refine z7z rfl rfl u7u rfl u0u rfl hx ?_
 refine z6z rfl u0u rfl rfl ?_
 refine x1x rfl ?_
 refine x1x rfl ?_
 obtain ⟨y, hy⟩ : ∃ y, l'[i]? = some y := ⟨_, List.getElem?_eq_getElem (by omega)⟩
 refine z7z rfl rfl u7u rfl u0u rfl hy ?_
 refine z6z rfl u0u rfl rfl ?_
 refine y7y rfl rfl rfl (c4b ..) ?_
 refine w2w rfl ?_
 refine ⟨by kernel_rfl, ?_⟩
 refine x8x rfl (fun hc7 => ?_) (fun hc7 => ?_)
 rotate_left
 ·try simp at hc7
  refine x9x ?_
  refine hK6 _ _ ?_
  clear hK6 K6
  refine y4y x7x (by rfl) ?_
  refine x1x rfl ?_
  refine a2m (.int .i64 ((i + 1 : Nat) : Int)) rfl rfl rfl (b0n rfl (by omega) (by omega) (by have := hlen; omega)) ?_
  refine x2x rfl ?_
  exact ⟨i + 1, ⟨⟨by omega, h2, a7v h3 hx hy (by assumption)⟩, by omega⟩, [], (Cov.cons (t := 5) rfl Cov.nil), (Cov.cons (t := 0) rfl (Cov.cons (t := 1) rfl Cov.nil)), HE.nil, HE.nil, rfl⟩
 try simp at hc7
 refine x4x x7x (by rfl) ?_
 refine x2x rfl ?_
 refine y0y ⟨.inr rfl, ?_⟩
 clear hK6 K6 hK3 K3
 refine z0z rfl ?_ rfl
 exact d6p hx hy (by assumption)
theorem c1k (c c' : Bool) (a b : Pa) : a0o Tryz.prog 251 [.agg (a2j c a), .agg (a2j c' b)] (.pv (.bool (decide (a = b)))) := by
 refine z4z x7x (fn := Tryz.f251) (by kernel_rfl) (by kernel_rfl) rfl (outs := [.pv (.bool (decide (a = b)))]) (by rfl) (Nat.le_of_ble_eq_true rfl) 2 ?_
 refine x4x x7x (by rfl) ?_
 refine v5v (id := 0) rfl rfl rfl ?_
 refine v5v (id := 1) rfl rfl rfl ?_
 refine x2x rfl ?_
 refine x5x fun K1 hK1 => ?_
 refine x4x x7x (by rfl) ?_
 refine x0x rfl v8v rfl rfl z1z rfl rfl ?_
 refine x3x (out := .agg (w0w a.ev)) rfl z1z rfl rfl ?_
 refine x0x rfl v8v rfl rfl z1z rfl rfl ?_
 refine x3x (out := .agg (w0w b.ev)) rfl z1z rfl rfl ?_
 refine y7y rfl rfl rfl (b0x ..) ?_
 refine w2w rfl ?_
 refine x8x rfl (fun hc2 => ?_) (fun hc2 => ?_)
 ·try simp at hc2
  refine x4x x7x (by rfl) ?_
  refine x2x rfl ?_
  refine y0y ⟨.inr rfl, ?_⟩
  clear hK1 K1
  refine z0z rfl ?_ rfl
  exact kF (by intro h; subst h; simp_all)
 try simp at hc2
 refine x9x ?_
 refine hK1 _ _ ?_
 clear hK1 K1
 refine x5x fun K3 hK3 => ?_
 refine x4x x7x (by rfl) ?_
 refine x0x rfl v8v rfl rfl p5p rfl rfl ?_
 refine x3x (out := .agg (a0b a.after)) rfl p5p rfl rfl ?_
 refine x0x rfl v8v rfl rfl p5p rfl rfl ?_
 refine x3x (out := .agg (a0b b.after)) rfl p5p rfl rfl ?_
 refine y7y rfl rfl rfl (b0y ..) ?_
 refine w2w rfl ?_
 refine x8x rfl (fun hc4 => ?_) (fun hc4 => ?_)
 ·try simp at hc4
  refine x4x x7x (by rfl) ?_
  refine x2x rfl ?_
  refine y0y ⟨.inr rfl, ?_⟩
  clear hK3 K3
  refine z0z rfl ?_ rfl
  exact kF (by intro h; subst h; simp_all)
 try simp at hc4
 refine x9x ?_
 refine hK3 _ _ ?_
 clear hK3 K3
 refine x5x fun K5 hK5 => ?_
 refine x4x x7x (by rfl) ?_
 refine x0x rfl v8v rfl rfl u6u rfl rfl ?_
 refine x3x rfl u6u rfl rfl ?_
 refine x0x rfl v8v rfl rfl u6u rfl rfl ?_
 refine x3x rfl u6u rfl rfl ?_
 refine y7y rfl rfl rfl (a5y ..) ?_
 refine w2w rfl ?_
 refine x8x rfl (fun hc6 => ?_) (fun hc6 => ?_)
 ·try simp at hc6
  refine x4x x7x (by rfl) ?_
  refine x2x rfl ?_
  refine y0y ⟨.inr rfl, ?_⟩
  clear hK5 K5
  refine z0z rfl ?_ rfl
  exact kF (by intro h; subst h; simp_all)
 try simp at hc6
 refine x9x ?_
 refine hK5 _ _ ?_
 clear hK5 K5
 refine x5x fun K7 hK7 => ?_
 refine x4x x7x (by rfl) ?_
 refine x0x rfl v8v rfl rfl u7u rfl rfl ?_
 refine x3x rfl u7u rfl rfl ?_
 refine x0x rfl v8v rfl rfl u7u rfl rfl ?_
 refine x3x rfl u7u rfl rfl ?_
 refine y7y rfl rfl rfl (b3a ..) ?_
 refine w2w rfl ?_
 refine x8x rfl (fun hc8 => ?_) (fun hc8 => ?_)
 ·try simp at hc8
  refine x4x x7x (by rfl) ?_
  refine x2x rfl ?_
  refine y0y ⟨.inr rfl, ?_⟩
  clear hK7 K7
  refine z0z rfl ?_ rfl
  exact kF (by intro h; subst h; simp_all)
 try simp at hc8
 refine x9x ?_
 refine hK7 _ _ ?_
 clear hK7 K7
 refine x4x x7x (by rfl) ?_
 refine x2x rfl ?_
 refine y0y ⟨.inr rfl, ?_⟩
 refine z0z rfl ?_ rfl
 exact kT (by cases a; cases b; simp_all)
theorem b8i (c c' : Bool) (l l' : List Pa) : a0o Tryz.prog 225 [a4j c l, a4j c' l'] (.pv (.bool (decide (l = l')))) := by
 refine z4z x7x (fn := Tryz.f225) (by kernel_rfl) (by kernel_rfl) rfl (outs := [.pv (.bool (decide (l = l')))]) (by rfl) (Nat.le_of_ble_eq_true rfl) 0 ?_
 refine w9w 0 rfl fun hlen => ?_
 refine x4x x7x (by rfl) ?_
 refine x2x rfl ?_
 refine x5x fun K1 hK1 => ?_
 refine x4x x7x (by rfl) ?_
 refine x1x rfl ?_
 refine u2u rfl v3v rfl ?_
 refine x1x rfl ?_
 refine u2u rfl v3v rfl ?_
 refine y3y rfl rfl rfl ?_
 refine x8x rfl (fun hc2 => ?_) (fun hc2 => ?_)
 ·try simp at hc2
  refine x4x x7x (by rfl) ?_
  refine x2x rfl ?_
  refine y0y ⟨.inr rfl, ?_⟩
  clear hK1 K1
  refine z0z rfl ?_ rfl
  exact d6o (by omega)
 try simp at hc2
 refine x9x ?_
 refine hK1 _ _ ?_
 clear hK1 K1
 refine x5x fun K3 hK3 => ?_
 refine x4x x7x (by rfl) ?_
 refine x2x rfl ?_
 refine y6y ?_
 refine u4u (ι := Nat) (fun i γ1 => [(5, .pv (.int .i64 (i : Int)))]) (fun i γ1 => []) (fun i => i ≤ l.length ∧ l.length = l'.length ∧ l.take i = l'.take i) (fun i => l.length - i) (Cov.cons (t := 0) rfl (Cov.cons (t := 1) rfl Cov.nil)) HE.nil 0 ⟨by omega, by omega, rfl⟩ [] (Cov.cons (t := 5) rfl Cov.nil) HE.nil rfl fun i γ1 hi => ?_
 try dsimp only [List.cons_append, List.nil_append]
 obtain ⟨h1, h2, h3⟩ := hi
 refine x5x fun K4 hK4 => ?_
 refine x4x x7x (by rfl) ?_
 refine x1x rfl ?_
 refine x1x rfl ?_
 refine u2u rfl v3v rfl ?_
 refine y3y rfl rfl rfl ?_
 refine x8x rfl (fun hc5 => ?_) (fun hc5 => ?_)
 rotate_left
 ·try simp at hc5
  refine v0v ?_
  refine hK3 _ _ ?_
  clear hK4 K4 hK3 K3
  refine x4x x7x (by rfl) ?_
  refine x2x rfl ?_
  refine y0y ⟨.inr rfl, ?_⟩
  refine z0z rfl ?_ rfl
  exact eqT h3 (by omega) (by omega)
 try simp at hc5
 refine x9x ?_
 refine hK4 _ _ ?_
 clear hK4 K4
 refine x5x fun K6 hK6 => ?_
 refine y6y ?_
 refine p6p x7x r2r (by rfl) ?_
 refine x1x rfl ?_
 refine x1x rfl ?_
 obtain ⟨x, hx⟩ : ∃ x, l[i]? = some x := ⟨_, List.getElem?_eq_getElem (by omega)⟩
 refine z7z rfl rfl v3v rfl v8v rfl hx ?_
 refine z6z rfl v8v rfl rfl ?_
 refine x1x rfl ?_
 refine x1x rfl ?_
 obtain ⟨y, hy⟩ : ∃ y, l'[i]? = some y := ⟨_, List.getElem?_eq_getElem (by omega)⟩
 refine z7z rfl rfl v3v rfl v8v rfl hy ?_
 refine z6z rfl v8v rfl rfl ?_
 refine y7y rfl rfl rfl (c1k ..) ?_
 refine w2w rfl ?_
 refine ⟨by kernel_rfl, ?_⟩
 refine x8x rfl (fun hc7 => ?_) (fun hc7 => ?_)
 rotate_left
 ·try simp at hc7
  refine x9x ?_
  refine hK6 _ _ ?_
  clear hK6 K6
  refine y4y x7x (by rfl) ?_
  refine x1x rfl ?_
  refine a2m (.int .i64 ((i + 1 : Nat) : Int)) rfl rfl rfl (b0n rfl (by omega) (by omega) (by have := hlen; omega)) ?_
  refine x2x rfl ?_
  exact ⟨i + 1, ⟨⟨by omega, h2, a7v h3 hx hy (by assumption)⟩, by omega⟩, [], (Cov.cons (t := 5) rfl Cov.nil), (Cov.cons (t := 0) rfl (Cov.cons (t := 1) rfl Cov.nil)), HE.nil, HE.nil, rfl⟩
 try simp at hc7
 refine x4x x7x (by rfl) ?_
 refine x2x rfl ?_
 refine y0y ⟨.inr rfl, ?_⟩
 clear hK6 K6 hK3 K3
 refine z0z rfl ?_ rfl
 exact d6p hx hy (by assumption)
theorem c1l (c c' : Bool) (a b : La) : a0o Tryz.prog 176 [.agg (a0m c a), .agg (a0m c' b)] (.pv (.bool (decide (a = b)))) := by
 refine z4z x7x (fn := Tryz.f176) (by kernel_rfl) (by kernel_rfl) rfl (outs := [.pv (.bool (decide (a = b)))]) (by rfl) (Nat.le_of_ble_eq_true rfl) 2 ?_
 refine x4x x7x (by rfl) ?_
 refine v5v (id := 0) rfl rfl rfl ?_
 refine v5v (id := 1) rfl rfl rfl ?_
 refine x2x rfl ?_
 refine x5x fun K1 hK1 => ?_
 refine x4x x7x (by rfl) ?_
 refine x0x rfl v2v rfl rfl y9y rfl rfl ?_
 refine x3x rfl y9y rfl rfl ?_
 refine x0x rfl v2v rfl rfl y9y rfl rfl ?_
 refine x3x rfl y9y rfl rfl ?_
 refine y3y rfl rfl rfl ?_
 refine x8x rfl (fun hc2 => ?_) (fun hc2 => ?_)
 ·try simp at hc2
  refine x4x x7x (by rfl) ?_
  refine x2x rfl ?_
  refine y0y ⟨.inr rfl, ?_⟩
  clear hK1 K1
  refine z0z rfl ?_ rfl
  exact kF (by intro h; subst h; simp_all)
 try simp at hc2
 refine x9x ?_
 refine hK1 _ _ ?_
 clear hK1 K1
 refine x5x fun K3 hK3 => ?_
 refine x4x x7x (by rfl) ?_
 refine x0x rfl v2v rfl rfl p5p rfl rfl ?_
 refine x3x (out := .agg (a0b a.base)) rfl p5p rfl rfl ?_
 refine x0x rfl v2v rfl rfl p5p rfl rfl ?_
 refine x3x (out := .agg (a0b b.base)) rfl p5p rfl rfl ?_
 refine y7y rfl rfl rfl (b0y ..) ?_
 refine w2w rfl ?_
 refine x8x rfl (fun hc4 => ?_) (fun hc4 => ?_)
 ·try simp at hc4
  refine x4x x7x (by rfl) ?_
  refine x2x rfl ?_
  refine y0y ⟨.inr rfl, ?_⟩
  clear hK3 K3
  refine z0z rfl ?_ rfl
  exact kF (by intro h; subst h; simp_all)
 try simp at hc4
 refine x9x ?_
 refine hK3 _ _ ?_
 clear hK3 K3
 refine x5x fun K5 hK5 => ?_
 refine x4x x7x (by rfl) ?_
 refine x0x rfl v2v rfl rfl v3v rfl rfl ?_
 refine x3x rfl v3v rfl rfl ?_
 refine x0x rfl v2v rfl rfl v3v rfl rfl ?_
 refine x3x rfl v3v rfl rfl ?_
 refine y7y rfl rfl rfl (b8i ..) ?_
 refine w2w rfl ?_
 refine x8x rfl (fun hc6 => ?_) (fun hc6 => ?_)
 ·try simp at hc6
  refine x4x x7x (by rfl) ?_
  refine x2x rfl ?_
  refine y0y ⟨.inr rfl, ?_⟩
  clear hK5 K5
  refine z0z rfl ?_ rfl
  exact kF (by intro h; subst h; simp_all)
 try simp at hc6
 refine x9x ?_
 refine hK5 _ _ ?_
 clear hK5 K5
 refine x4x x7x (by rfl) ?_
 refine x2x rfl ?_
 refine y0y ⟨.inr rfl, ?_⟩
 refine z0z rfl ?_ rfl
 exact kT (by cases a; cases b; simp_all)
theorem b8j (c c' : Bool) (l l' : List La) : a0o Tryz.prog 84 [c1h c l, c1h c' l'] (.pv (.bool (decide (l = l')))) := by
 refine z4z x7x (fn := Tryz.f84) (by kernel_rfl) (by kernel_rfl) rfl (outs := [.pv (.bool (decide (l = l')))]) (by rfl) (Nat.le_of_ble_eq_true rfl) 0 ?_
 refine w9w 0 rfl fun hlen => ?_
 refine x4x x7x (by rfl) ?_
 refine x2x rfl ?_
 refine x5x fun K1 hK1 => ?_
 refine x4x x7x (by rfl) ?_
 refine x1x rfl ?_
 refine u2u rfl w1w rfl ?_
 refine x1x rfl ?_
 refine u2u rfl w1w rfl ?_
 refine y3y rfl rfl rfl ?_
 refine x8x rfl (fun hc2 => ?_) (fun hc2 => ?_)
 ·try simp at hc2
  refine x4x x7x (by rfl) ?_
  refine x2x rfl ?_
  refine y0y ⟨.inr rfl, ?_⟩
  clear hK1 K1
  refine z0z rfl ?_ rfl
  exact d6o (by omega)
 try simp at hc2
 refine x9x ?_
 refine hK1 _ _ ?_
 clear hK1 K1
 refine x5x fun K3 hK3 => ?_
 refine x4x x7x (by rfl) ?_
 refine x2x rfl ?_
 refine y6y ?_
 refine u4u (ι := Nat) (fun i γ1 => [(5, .pv (.int .i64 (i : Int)))]) (fun i γ1 => []) (fun i => i ≤ l.length ∧ l.length = l'.length ∧ l.take i = l'.take i) (fun i => l.length - i) (Cov.cons (t := 0) rfl (Cov.cons (t := 1) rfl Cov.nil)) HE.nil 0 ⟨by omega, by omega, rfl⟩ [] (Cov.cons (t := 5) rfl Cov.nil) HE.nil rfl fun i γ1 hi => ?_
 try dsimp only [List.cons_append, List.nil_append]
 obtain ⟨h1, h2, h3⟩ := hi
 refine x5x fun K4 hK4 => ?_
 refine x4x x7x (by rfl) ?_
 refine x1x rfl ?_
 refine x1x rfl ?_
 refine u2u rfl w1w rfl ?_
 refine y3y rfl rfl rfl ?_
 refine x8x rfl (fun hc5 => ?_) (fun hc5 => ?_)
 rotate_left
 ·try simp at hc5
  refine v0v ?_
  refine hK3 _ _ ?_
  clear hK4 K4 hK3 K3
  refine x4x x7x (by rfl) ?_
  refine x2x rfl ?_
  refine y0y ⟨.inr rfl, ?_⟩
  refine z0z rfl ?_ rfl
  exact eqT h3 (by omega) (by omega)
 try simp at hc5
 refine x9x ?_
 refine hK4 _ _ ?_
 clear hK4 K4
 refine x5x fun K6 hK6 => ?_
 refine y6y ?_
 refine p6p x7x r2r (by rfl) ?_
 refine x1x rfl ?_
 refine x1x rfl ?_
 obtain ⟨x, hx⟩ : ∃ x, l[i]? = some x := ⟨_, List.getElem?_eq_getElem (by omega)⟩
 refine z7z rfl rfl w1w rfl v2v rfl hx ?_
 refine z6z rfl v2v rfl rfl ?_
 refine x1x rfl ?_
 refine x1x rfl ?_
 obtain ⟨y, hy⟩ : ∃ y, l'[i]? = some y := ⟨_, List.getElem?_eq_getElem (by omega)⟩
 refine z7z rfl rfl w1w rfl v2v rfl hy ?_
 refine z6z rfl v2v rfl rfl ?_
 refine y7y rfl rfl rfl (c1l ..) ?_
 refine w2w rfl ?_
 refine ⟨by kernel_rfl, ?_⟩
 refine x8x rfl (fun hc7 => ?_) (fun hc7 => ?_)
 rotate_left
 ·try simp at hc7
  refine x9x ?_
  refine hK6 _ _ ?_
  clear hK6 K6
  refine y4y x7x (by rfl) ?_
  refine x1x rfl ?_
  refine a2m (.int .i64 ((i + 1 : Nat) : Int)) rfl rfl rfl (b0n rfl (by omega) (by omega) (by have := hlen; omega)) ?_
  refine x2x rfl ?_
  exact ⟨i + 1, ⟨⟨by omega, h2, a7v h3 hx hy (by assumption)⟩, by omega⟩, [], (Cov.cons (t := 5) rfl Cov.nil), (Cov.cons (t := 0) rfl (Cov.cons (t := 1) rfl Cov.nil)), HE.nil, HE.nil, rfl⟩
 try simp at hc7
 refine x4x x7x (by rfl) ?_
 refine x2x rfl ?_
 refine y0y ⟨.inr rfl, ?_⟩
 clear hK6 K6 hK3 K3
 refine z0z rfl ?_ rfl
 exact d6p hx hy (by assumption)
theorem c1m (c c' : Bool) (a b : Vi) : a0o Tryz.prog 178 [.agg (a2n c a), .agg (a2n c' b)] (.pv (.bool (decide (a = b)))) := by
 refine z4z x7x (fn := Tryz.f178) (by kernel_rfl) (by kernel_rfl) rfl (outs := [.pv (.bool (decide (a = b)))]) (by rfl) (Nat.le_of_ble_eq_true rfl) 2 ?_
 refine x4x x7x (by rfl) ?_
 refine v5v (id := 0) rfl rfl rfl ?_
 refine v5v (id := 1) rfl rfl rfl ?_
 refine x2x rfl ?_
 refine x5x fun K1 hK1 => ?_
 refine x4x x7x (by rfl) ?_
 refine x0x rfl w5w rfl rfl y9y rfl rfl ?_
 refine x3x rfl y9y rfl rfl ?_
 refine x0x rfl w5w rfl rfl y9y rfl rfl ?_
 refine x3x rfl y9y rfl rfl ?_
 refine y3y rfl rfl rfl ?_
 refine x8x rfl (fun hc2 => ?_) (fun hc2 => ?_)
 ·try simp at hc2
  refine x4x x7x (by rfl) ?_
  refine x2x rfl ?_
  refine y0y ⟨.inr rfl, ?_⟩
  clear hK1 K1
  refine z0z rfl ?_ rfl
  exact kF (by intro h; subst h; simp_all)
 try simp at hc2
 refine x9x ?_
 refine hK1 _ _ ?_
 clear hK1 K1
 refine x5x fun K3 hK3 => ?_
 refine x4x x7x (by rfl) ?_
 refine x0x rfl w5w rfl rfl y9y rfl rfl ?_
 refine x3x rfl y9y rfl rfl ?_
 refine x0x rfl w5w rfl rfl y9y rfl rfl ?_
 refine x3x rfl y9y rfl rfl ?_
 refine y3y rfl rfl rfl ?_
 refine x8x rfl (fun hc4 => ?_) (fun hc4 => ?_)
 ·try simp at hc4
  refine x4x x7x (by rfl) ?_
  refine x2x rfl ?_
  refine y0y ⟨.inr rfl, ?_⟩
  clear hK3 K3
  refine z0z rfl ?_ rfl
  exact kF (by intro h; subst h; simp_all)
 try simp at hc4
 refine x9x ?_
 refine hK3 _ _ ?_
 clear hK3 K3
 refine x5x fun K5 hK5 => ?_
 refine x4x x7x (by rfl) ?_
 refine x0x rfl w5w rfl rfl u6u rfl rfl ?_
 refine x3x rfl u6u rfl rfl ?_
 refine x0x rfl w5w rfl rfl u6u rfl rfl ?_
 refine x3x rfl u6u rfl rfl ?_
 refine y7y rfl rfl rfl (a5y ..) ?_
 refine w2w rfl ?_
 refine x8x rfl (fun hc6 => ?_) (fun hc6 => ?_)
 ·try simp at hc6
  refine x4x x7x (by rfl) ?_
  refine x2x rfl ?_
  refine y0y ⟨.inr rfl, ?_⟩
  clear hK5 K5
  refine z0z rfl ?_ rfl
  exact kF (by intro h; subst h; simp_all)
 try simp at hc6
 refine x9x ?_
 refine hK5 _ _ ?_
 clear hK5 K5
 refine x4x x7x (by rfl) ?_
 refine x2x rfl ?_
 refine y0y ⟨.inr rfl, ?_⟩
 refine z0z rfl ?_ rfl
 exact kT (by cases a; cases b; simp_all)
theorem b8k (c c' : Bool) (l l' : List Vi) : a0o Tryz.prog 86 [c1i c l, c1i c' l'] (.pv (.bool (decide (l = l')))) := by
 refine z4z x7x (fn := Tryz.f86) (by kernel_rfl) (by kernel_rfl) rfl (outs := [.pv (.bool (decide (l = l')))]) (by rfl) (Nat.le_of_ble_eq_true rfl) 0 ?_
 refine w9w 0 rfl fun hlen => ?_
 refine x4x x7x (by rfl) ?_
 refine x2x rfl ?_
 refine x5x fun K1 hK1 => ?_
 refine x4x x7x (by rfl) ?_
 refine x1x rfl ?_
 refine u2u rfl p8p rfl ?_
 refine x1x rfl ?_
 refine u2u rfl p8p rfl ?_
 refine y3y rfl rfl rfl ?_
 refine x8x rfl (fun hc2 => ?_) (fun hc2 => ?_)
 ·try simp at hc2
  refine x4x x7x (by rfl) ?_
  refine x2x rfl ?_
  refine y0y ⟨.inr rfl, ?_⟩
  clear hK1 K1
  refine z0z rfl ?_ rfl
  exact d6o (by omega)
 try simp at hc2
 refine x9x ?_
 refine hK1 _ _ ?_
 clear hK1 K1
 refine x5x fun K3 hK3 => ?_
 refine x4x x7x (by rfl) ?_
 refine x2x rfl ?_
 refine y6y ?_
 refine u4u (ι := Nat) (fun i γ1 => [(5, .pv (.int .i64 (i : Int)))]) (fun i γ1 => []) (fun i => i ≤ l.length ∧ l.length = l'.length ∧ l.take i = l'.take i) (fun i => l.length - i) (Cov.cons (t := 0) rfl (Cov.cons (t := 1) rfl Cov.nil)) HE.nil 0 ⟨by omega, by omega, rfl⟩ [] (Cov.cons (t := 5) rfl Cov.nil) HE.nil rfl fun i γ1 hi => ?_
 try dsimp only [List.cons_append, List.nil_append]
 obtain ⟨h1, h2, h3⟩ := hi
 refine x5x fun K4 hK4 => ?_
 refine x4x x7x (by rfl) ?_
 refine x1x rfl ?_
 refine x1x rfl ?_
 refine u2u rfl p8p rfl ?_
 refine y3y rfl rfl rfl ?_
 refine x8x rfl (fun hc5 => ?_) (fun hc5 => ?_)
 rotate_left
 ·try simp at hc5
  refine v0v ?_
  refine hK3 _ _ ?_
  clear hK4 K4 hK3 K3
  refine x4x x7x (by rfl) ?_
  refine x2x rfl ?_
  refine y0y ⟨.inr rfl, ?_⟩
  refine z0z rfl ?_ rfl
  exact eqT h3 (by omega) (by omega)
 try simp at hc5
 refine x9x ?_
 refine hK4 _ _ ?_
 clear hK4 K4
 refine x5x fun K6 hK6 => ?_
 refine y6y ?_
 refine p6p x7x r2r (by rfl) ?_
 refine x1x rfl ?_
 refine x1x rfl ?_
 obtain ⟨x, hx⟩ : ∃ x, l[i]? = some x := ⟨_, List.getElem?_eq_getElem (by omega)⟩
 refine z7z rfl rfl p8p rfl w5w rfl hx ?_
 refine z6z rfl w5w rfl rfl ?_
 refine x1x rfl ?_
 refine x1x rfl ?_
 obtain ⟨y, hy⟩ : ∃ y, l'[i]? = some y := ⟨_, List.getElem?_eq_getElem (by omega)⟩
 refine z7z rfl rfl p8p rfl w5w rfl hy ?_
 refine z6z rfl w5w rfl rfl ?_
 refine y7y rfl rfl rfl (c1m ..) ?_
 refine w2w rfl ?_
 refine ⟨by kernel_rfl, ?_⟩
 refine x8x rfl (fun hc7 => ?_) (fun hc7 => ?_)
 rotate_left
 ·try simp at hc7
  refine x9x ?_
  refine hK6 _ _ ?_
  clear hK6 K6
  refine y4y x7x (by rfl) ?_
  refine x1x rfl ?_
  refine a2m (.int .i64 ((i + 1 : Nat) : Int)) rfl rfl rfl (b0n rfl (by omega) (by omega) (by have := hlen; omega)) ?_
  refine x2x rfl ?_
  exact ⟨i + 1, ⟨⟨by omega, h2, a7v h3 hx hy (by assumption)⟩, by omega⟩, [], (Cov.cons (t := 5) rfl Cov.nil), (Cov.cons (t := 0) rfl (Cov.cons (t := 1) rfl Cov.nil)), HE.nil, HE.nil, rfl⟩
 try simp at hc7
 refine x4x x7x (by rfl) ?_
 refine x2x rfl ?_
 refine y0y ⟨.inr rfl, ?_⟩
 clear hK6 K6 hK3 K3
 refine z0z rfl ?_ rfl
 exact d6p hx hy (by assumption)
theorem a5f (c c' : Bool) (a b : Nd) : a0o Tryz.prog 18 [.agg (a1d c a), .agg (a1d c' b)] (.pv (.bool (decide (a = b)))) := by
 refine z4z x7x (fn := Tryz.f18) (by kernel_rfl) (by kernel_rfl) rfl (outs := [.pv (.bool (decide (a = b)))]) (by rfl) (Nat.le_of_ble_eq_true rfl) 2 ?_
 refine x4x x7x (by rfl) ?_
 refine v5v (id := 0) rfl rfl rfl ?_
 refine v5v (id := 1) rfl rfl rfl ?_
 refine x2x rfl ?_
 refine x5x fun K1 hK1 => ?_
 refine x4x x7x (by rfl) ?_
 refine x0x rfl z5z rfl rfl y9y rfl rfl ?_
 refine x3x rfl y9y rfl rfl ?_
 refine x0x rfl z5z rfl rfl y9y rfl rfl ?_
 refine x3x rfl y9y rfl rfl ?_
 refine y3y rfl rfl rfl ?_
 refine x8x rfl (fun hc2 => ?_) (fun hc2 => ?_)
 ·try simp at hc2
  refine x4x x7x (by rfl) ?_
  refine x2x rfl ?_
  refine y0y ⟨.inr rfl, ?_⟩
  clear hK1 K1
  refine z0z rfl ?_ rfl
  exact kF (by intro h; subst h; simp_all)
 try simp at hc2
 refine x9x ?_
 refine hK1 _ _ ?_
 clear hK1 K1
 refine x5x fun K3 hK3 => ?_
 refine x4x x7x (by rfl) ?_
 refine x0x rfl z5z rfl rfl b4p rfl rfl ?_
 refine x3x rfl b4p rfl rfl ?_
 refine x0x rfl z5z rfl rfl b4p rfl rfl ?_
 refine x3x rfl b4p rfl rfl ?_
 refine b1l rfl rfl (by intro p q h h'; cases h; cases h'; rfl) (.inr rfl) (b5f Tryz.underlying4 _ _ _ _) ?_
 refine x8x rfl (fun hc4 => ?_) (fun hc4 => ?_)
 ·try simp at hc4
  refine x4x x7x (by rfl) ?_
  refine x2x rfl ?_
  refine y0y ⟨.inr rfl, ?_⟩
  clear hK3 K3
  refine z0z rfl ?_ rfl
  exact kF (by intro h; subst h; simp_all)
 try simp at hc4
 refine x9x ?_
 refine hK3 _ _ ?_
 clear hK3 K3
 refine x5x fun K5 hK5 => ?_
 refine x4x x7x (by rfl) ?_
 refine x0x rfl z5z rfl rfl y9y rfl rfl ?_
 refine x3x rfl y9y rfl rfl ?_
 refine x0x rfl z5z rfl rfl y9y rfl rfl ?_
 refine x3x rfl y9y rfl rfl ?_
 refine y3y rfl rfl rfl ?_
 refine x8x rfl (fun hc6 => ?_) (fun hc6 => ?_)
 ·try simp at hc6
  refine x4x x7x (by rfl) ?_
  refine x2x rfl ?_
  refine y0y ⟨.inr rfl, ?_⟩
  clear hK5 K5
  refine z0z rfl ?_ rfl
  exact kF (by intro h; subst h; simp_all)
 try simp at hc6
 refine x9x ?_
 refine hK5 _ _ ?_
 clear hK5 K5
 refine x5x fun K7 hK7 => ?_
 refine x4x x7x (by rfl) ?_
 refine x0x rfl z5z rfl rfl y9y rfl rfl ?_
 refine x3x rfl y9y rfl rfl ?_
 refine x0x rfl z5z rfl rfl y9y rfl rfl ?_
 refine x3x rfl y9y rfl rfl ?_
 refine y3y rfl rfl rfl ?_
 refine x8x rfl (fun hc8 => ?_) (fun hc8 => ?_)
 ·try simp at hc8
  refine x4x x7x (by rfl) ?_
  refine x2x rfl ?_
  refine y0y ⟨.inr rfl, ?_⟩
  clear hK7 K7
  refine z0z rfl ?_ rfl
  exact kF (by intro h; subst h; simp_all)
 try simp at hc8
 refine x9x ?_
 refine hK7 _ _ ?_
 clear hK7 K7
 refine x5x fun K9 hK9 => ?_
 refine x4x x7x (by rfl) ?_
 refine x0x rfl z5z rfl rfl w1w rfl rfl ?_
 refine x3x rfl w1w rfl rfl ?_
 refine x0x rfl z5z rfl rfl w1w rfl rfl ?_
 refine x3x rfl w1w rfl rfl ?_
 refine y7y rfl rfl rfl (b8j ..) ?_
 refine w2w rfl ?_
 refine x8x rfl (fun hc10 => ?_) (fun hc10 => ?_)
 ·try simp at hc10
  refine x4x x7x (by rfl) ?_
  refine x2x rfl ?_
  refine y0y ⟨.inr rfl, ?_⟩
  clear hK9 K9
  refine z0z rfl ?_ rfl
  exact kF (by intro h; subst h; simp_all)
 try simp at hc10
 refine x9x ?_
 refine hK9 _ _ ?_
 clear hK9 K9
 refine x5x fun K11 hK11 => ?_
 refine x4x x7x (by rfl) ?_
 refine x0x rfl z5z rfl rfl u6u rfl rfl ?_
 refine x3x rfl u6u rfl rfl ?_
 refine x0x rfl z5z rfl rfl u6u rfl rfl ?_
 refine x3x rfl u6u rfl rfl ?_
 refine y7y rfl rfl rfl (a5y ..) ?_
 refine w2w rfl ?_
 refine x8x rfl (fun hc12 => ?_) (fun hc12 => ?_)
 ·try simp at hc12
  refine x4x x7x (by rfl) ?_
  refine x2x rfl ?_
  refine y0y ⟨.inr rfl, ?_⟩
  clear hK11 K11
  refine z0z rfl ?_ rfl
  exact kF (by intro h; subst h; simp_all)
 try simp at hc12
 refine x9x ?_
 refine hK11 _ _ ?_
 clear hK11 K11
 refine x5x fun K13 hK13 => ?_
 refine x4x x7x (by rfl) ?_
 refine x0x rfl z5z rfl rfl u7u rfl rfl ?_
 refine x3x rfl u7u rfl rfl ?_
 refine x0x rfl z5z rfl rfl u7u rfl rfl ?_
 refine x3x rfl u7u rfl rfl ?_
 refine y7y rfl rfl rfl (b3a ..) ?_
 refine w2w rfl ?_
 refine x8x rfl (fun hc14 => ?_) (fun hc14 => ?_)
 ·try simp at hc14
  refine x4x x7x (by rfl) ?_
  refine x2x rfl ?_
  refine y0y ⟨.inr rfl, ?_⟩
  clear hK13 K13
  refine z0z rfl ?_ rfl
  exact kF (by intro h; subst h; simp_all)
 try simp at hc14
 refine x9x ?_
 refine hK13 _ _ ?_
 clear hK13 K13
 refine x5x fun K15 hK15 => ?_
 refine x4x x7x (by rfl) ?_
 refine x0x rfl z5z rfl rfl y9y rfl rfl ?_
 refine x3x rfl y9y rfl rfl ?_
 refine x0x rfl z5z rfl rfl y9y rfl rfl ?_
 refine x3x rfl y9y rfl rfl ?_
 refine y3y rfl rfl rfl ?_
 refine x8x rfl (fun hc16 => ?_) (fun hc16 => ?_)
 ·try simp at hc16
  refine x4x x7x (by rfl) ?_
  refine x2x rfl ?_
  refine y0y ⟨.inr rfl, ?_⟩
  clear hK15 K15
  refine z0z rfl ?_ rfl
  exact kF (by intro h; subst h; simp_all)
 try simp at hc16
 refine x9x ?_
 refine hK15 _ _ ?_
 clear hK15 K15
 refine x5x fun K17 hK17 => ?_
 refine x4x x7x (by rfl) ?_
 refine x0x rfl z5z rfl rfl y9y rfl rfl ?_
 refine x3x rfl y9y rfl rfl ?_
 refine x0x rfl z5z rfl rfl y9y rfl rfl ?_
 refine x3x rfl y9y rfl rfl ?_
 refine y3y rfl rfl rfl ?_
 refine x8x rfl (fun hc18 => ?_) (fun hc18 => ?_)
 ·try simp at hc18
  refine x4x x7x (by rfl) ?_
  refine x2x rfl ?_
  refine y0y ⟨.inr rfl, ?_⟩
  clear hK17 K17
  refine z0z rfl ?_ rfl
  exact kF (by intro h; subst h; simp_all)
 try simp at hc18
 refine x9x ?_
 refine hK17 _ _ ?_
 clear hK17 K17
 refine x5x fun K19 hK19 => ?_
 refine x4x x7x (by rfl) ?_
 refine x0x rfl z5z rfl rfl p8p rfl rfl ?_
 refine x3x rfl p8p rfl rfl ?_
 refine x0x rfl z5z rfl rfl p8p rfl rfl ?_
 refine x3x rfl p8p rfl rfl ?_
 refine y7y rfl rfl rfl (b8k ..) ?_
 refine w2w rfl ?_
 refine x8x rfl (fun hc20 => ?_) (fun hc20 => ?_)
 ·try simp at hc20
  refine x4x x7x (by rfl) ?_
  refine x2x rfl ?_
  refine y0y ⟨.inr rfl, ?_⟩
  clear hK19 K19
  refine z0z rfl ?_ rfl
  exact kF (by intro h; subst h; simp_all)
 try simp at hc20
 refine x9x ?_
 refine hK19 _ _ ?_
 clear hK19 K19
 refine x5x fun K21 hK21 => ?_
 refine x4x x7x (by rfl) ?_
 refine x0x rfl z5z rfl rfl p3p rfl rfl ?_
 refine x3x rfl p3p rfl rfl ?_
 refine x0x rfl z5z rfl rfl p3p rfl rfl ?_
 refine x3x rfl p3p rfl rfl ?_
 refine y7y rfl rfl rfl (c1j ..) ?_
 refine w2w rfl ?_
 refine x8x rfl (fun hc22 => ?_) (fun hc22 => ?_)
 ·try simp at hc22
  refine x4x x7x (by rfl) ?_
  refine x2x rfl ?_
  refine y0y ⟨.inr rfl, ?_⟩
  clear hK21 K21
  refine z0z rfl ?_ rfl
  exact kF (by intro h; subst h; simp_all)
 try simp at hc22
 refine x9x ?_
 refine hK21 _ _ ?_
 clear hK21 K21
 refine x5x fun K23 hK23 => ?_
 refine x4x x7x (by rfl) ?_
 refine x0x rfl z5z rfl rfl y9y rfl rfl ?_
 refine x3x rfl y9y rfl rfl ?_
 refine x0x rfl z5z rfl rfl y9y rfl rfl ?_
 refine x3x rfl y9y rfl rfl ?_
 refine y3y rfl rfl rfl ?_
 refine x8x rfl (fun hc24 => ?_) (fun hc24 => ?_)
 ·try simp at hc24
  refine x4x x7x (by rfl) ?_
  refine x2x rfl ?_
  refine y0y ⟨.inr rfl, ?_⟩
  clear hK23 K23
  refine z0z rfl ?_ rfl
  exact kF (by intro h; subst h; simp_all)
 try simp at hc24
 refine x9x ?_
 refine hK23 _ _ ?_
 clear hK23 K23
 refine x5x fun K25 hK25 => ?_
 refine x4x x7x (by rfl) ?_
 refine x0x rfl z5z rfl rfl y9y rfl rfl ?_
 refine x3x rfl y9y rfl rfl ?_
 refine x0x rfl z5z rfl rfl y9y rfl rfl ?_
 refine x3x rfl y9y rfl rfl ?_
 refine y3y rfl rfl rfl ?_
 refine x8x rfl (fun hc26 => ?_) (fun hc26 => ?_)
 ·try simp at hc26
  refine x4x x7x (by rfl) ?_
  refine x2x rfl ?_
  refine y0y ⟨.inr rfl, ?_⟩
  clear hK25 K25
  refine z0z rfl ?_ rfl
  exact kF (by intro h; subst h; simp_all)
 try simp at hc26
 refine x9x ?_
 refine hK25 _ _ ?_
 clear hK25 K25
 refine x4x x7x (by rfl) ?_
 refine x2x rfl ?_
 refine y0y ⟨.inr rfl, ?_⟩
 refine z0z rfl ?_ rfl
 exact kT (by cases a; cases b; simp_all)
end
section
theorem b7m (c : Bool) (l : List Int) (k : Nat) (hk : k + szs zI l ≤ 1000000000) : a0o Tryz.prog 94 [a4i c (mks zI kI k l), .pv (.int .i64 (k : Int))] (.pv (.int .i64 ((k + szs zI l : Nat) : Int))) := by
 refine z4z x7x (fn := Tryz.f94) (by kernel_rfl) (by kernel_rfl) rfl (outs := [.pv (.int .i64 ((k + szs zI l : Nat) : Int))]) (by rfl) (Nat.le_of_ble_eq_true rfl) 0 ?_
 have hml := a4p zI kI k l
 have hll := a4q zI (fun p => by unfold zI; omega) l
 refine x4x x7x (by rfl) ?_
 refine x2x rfl ?_
 refine x5x fun K1 hK1 => ?_
 refine x4x x7x (by rfl) ?_
 refine x2x rfl ?_
 refine y6y ?_
 refine u4u (ι := Nat) (fun i γ1 => [(1, .pv (.int .i64 ((k + szs zI (l.take i) : Nat) : Int))), (5, .pv (.int .i64 (i : Int)))]) (fun i γ1 => []) (fun i => i ≤ l.length) (fun i => l.length - i) (Cov.cons (t := 0) rfl Cov.nil) HE.nil 0 (by omega) [] (Cov.cons' (t := 1) rfl (by rw [List.take_zero]; rfl) (Cov.cons (t := 5) rfl Cov.nil)) HE.nil rfl fun i γ1 hi => ?_
 try dsimp only [List.cons_append, List.nil_append]
 refine x5x fun K2 hK2 => ?_
 refine x4x x7x (by rfl) ?_
 refine x1x rfl ?_
 refine x1x rfl ?_
 refine u2u rfl p3p rfl ?_
 refine y3y rfl rfl rfl ?_
 refine x8x rfl (fun hc3 => ?_) (fun hc3 => ?_)
 rotate_left
 ·try simp at hc3
  obtain rfl : i = l.length := by omega
  refine v0v ?_
  refine hK1 _ _ ?_
  clear hK2 K2 hK1 K1
  refine x4x x7x (by rfl) ?_
  refine x1x rfl ?_
  refine x2x rfl ?_
  refine y0y ⟨.inr rfl, ?_⟩
  refine z0z rfl ?_ rfl
  rw [List.take_length]
 try simp at hc3
 obtain ⟨p, hp⟩ : ∃ p, l[i]? = some p := ⟨_, List.getElem?_eq_getElem (by omega)⟩
 have hmk := a4r zI kI (k := k) hp
 have hat := a2t zI hp
 have hzp : zI p = 1 := rfl
 obtain ⟨q, hq⟩ : ∃ q, q = k + szs zI (l.take i) := ⟨_, rfl⟩
 rw [← hq] at hmk ⊢
 refine x9x ?_
 refine hK2 _ _ ?_
 clear hK2 K2
 refine x5x fun K4 hK4 => ?_
 refine y6y ?_
 refine x5x fun K5 hK5 => ?_
 refine x4x x7x (by rfl) ?_
 refine x1x rfl ?_
 refine x1x rfl ?_
 refine z7z rfl rfl p3p rfl y9y rfl (by assumption) ?_
 refine z3z rfl y9y rfl ?_
 refine x1x rfl ?_
 refine y3y rfl rfl rfl ?_
 refine x8x rfl (fun hc6 => ?_) (fun hc6 => ?_)
 ·(simp [kI, kEv, kOu, kPa, kLa, kVi, mEv, mOu, mSt] at hc6; done)
 try simp at hc6
 refine x9x ?_
 refine hK5 _ _ ?_
 clear hK5 K5
 refine y4y x7x (by rfl) ?_
 refine x1x rfl ?_
 refine u1u (b := 1) rfl rfl (by omega) ?_
 refine x2x rfl ?_
 refine hK4 _ _ ?_
 clear hK4 K4
 refine y4y x7x (by rfl) ?_
 refine x1x rfl ?_
 refine u1u (b := 1) rfl rfl (by omega) ?_
 refine x2x rfl ?_
 exact ⟨i + 1, ⟨by omega, by omega⟩, [], (Cov.cons' (t := 1) rfl (by rw [a0l zI hp]; exact congrArg (fun v : Nat => AV.pv (.int .i64 (v : Int))) (by omega)) (Cov.cons (t := 5) rfl Cov.nil)), (Cov.cons (t := 0) rfl Cov.nil), HE.nil, HE.nil, rfl⟩
theorem a3w (c : Bool) (l : List Ev) (k : Nat) (hk : k + szs zEv l ≤ 1000000000) : a0o Tryz.prog 91 [a0i c (mks zEv kEv k l), .pv (.int .i64 (k : Int))] (.pv (.int .i64 ((k + szs zEv l : Nat) : Int))) := by
 refine z4z x7x (fn := Tryz.f91) (by kernel_rfl) (by kernel_rfl) rfl (outs := [.pv (.int .i64 ((k + szs zEv l : Nat) : Int))]) (by rfl) (Nat.le_of_ble_eq_true rfl) 0 ?_
 have hml := a4p zEv kEv k l
 have hll := a4q zEv (fun p => by unfold zEv; omega) l
 refine x4x x7x (by rfl) ?_
 refine x2x rfl ?_
 refine x5x fun K1 hK1 => ?_
 refine x4x x7x (by rfl) ?_
 refine x2x rfl ?_
 refine y6y ?_
 refine u4u (ι := Nat) (fun i γ1 => [(1, .pv (.int .i64 ((k + szs zEv (l.take i) : Nat) : Int))), (5, .pv (.int .i64 (i : Int)))]) (fun i γ1 => []) (fun i => i ≤ l.length) (fun i => l.length - i) (Cov.cons (t := 0) rfl Cov.nil) HE.nil 0 (by omega) [] (Cov.cons' (t := 1) rfl (by rw [List.take_zero]; rfl) (Cov.cons (t := 5) rfl Cov.nil)) HE.nil rfl fun i γ1 hi => ?_
 try dsimp only [List.cons_append, List.nil_append]
 refine x5x fun K2 hK2 => ?_
 refine x4x x7x (by rfl) ?_
 refine x1x rfl ?_
 refine x1x rfl ?_
 refine u2u rfl u6u rfl ?_
 refine y3y rfl rfl rfl ?_
 refine x8x rfl (fun hc3 => ?_) (fun hc3 => ?_)
 rotate_left
 ·try simp at hc3
  obtain rfl : i = l.length := by omega
  refine v0v ?_
  refine hK1 _ _ ?_
  clear hK2 K2 hK1 K1
  refine x4x x7x (by rfl) ?_
  refine x1x rfl ?_
  refine x2x rfl ?_
  refine y0y ⟨.inr rfl, ?_⟩
  refine z0z rfl ?_ rfl
  rw [List.take_length]
 try simp at hc3
 obtain ⟨p, hp⟩ : ∃ p, l[i]? = some p := ⟨_, List.getElem?_eq_getElem (by omega)⟩
 have hmk := a4r zEv kEv (k := k) hp
 have hat := a2t zEv hp
 have hzp : zEv p = 7 := rfl
 obtain ⟨q, hq⟩ : ∃ q, q = k + szs zEv (l.take i) := ⟨_, rfl⟩
 rw [← hq] at hmk ⊢
 refine x9x ?_
 refine hK2 _ _ ?_
 clear hK2 K2
 refine x5x fun K4 hK4 => ?_
 refine y6y ?_
 refine x5x fun K5 hK5 => ?_
 refine x4x x7x (by rfl) ?_
 refine x1x rfl ?_
 refine x1x rfl ?_
 refine z7z rfl rfl u6u rfl z1z rfl (by assumption) ?_
 refine x0x rfl z1z rfl rfl y9y rfl rfl ?_
 refine z3z rfl y9y rfl ?_
 refine x1x rfl ?_
 refine y3y rfl rfl rfl ?_
 refine x8x rfl (fun hc6 => ?_) (fun hc6 => ?_)
 ·(simp [kI, kEv, kOu, kPa, kLa, kVi, mEv, mOu, mSt] at hc6; done)
 try simp at hc6
 refine x9x ?_
 refine hK5 _ _ ?_
 clear hK5 K5
 refine x4x x7x (by rfl) ?_
 refine x1x rfl ?_
 refine u1u (b := 1) rfl rfl (by omega) ?_
 refine x2x rfl ?_
 refine x5x fun K7 hK7 => ?_
 refine x4x x7x (by rfl) ?_
 refine x1x rfl ?_
 refine x1x rfl ?_
 refine z7z rfl rfl u6u rfl z1z rfl (by assumption) ?_
 refine x0x rfl z1z rfl rfl y9y rfl rfl ?_
 refine z3z rfl y9y rfl ?_
 refine x1x rfl ?_
 refine y3y rfl rfl rfl ?_
 refine x8x rfl (fun hc8 => ?_) (fun hc8 => ?_)
 ·(simp [kI, kEv, kOu, kPa, kLa, kVi, mEv, mOu, mSt] at hc8; done)
 try simp at hc8
 refine x9x ?_
 refine hK7 _ _ ?_
 clear hK7 K7
 refine x4x x7x (by rfl) ?_
 refine x1x rfl ?_
 refine u1u (b := 1) rfl rfl (by omega) ?_
 refine x2x rfl ?_
 refine x5x fun K9 hK9 => ?_
 refine x4x x7x (by rfl) ?_
 refine x1x rfl ?_
 refine x1x rfl ?_
 refine z7z rfl rfl u6u rfl z1z rfl (by assumption) ?_
 refine x0x rfl z1z rfl rfl y9y rfl rfl ?_
 refine z3z rfl y9y rfl ?_
 refine x1x rfl ?_
 refine y3y rfl rfl rfl ?_
 refine x8x rfl (fun hc10 => ?_) (fun hc10 => ?_)
 ·(simp [kI, kEv, kOu, kPa, kLa, kVi, mEv, mOu, mSt] at hc10; done)
 try simp at hc10
 refine x9x ?_
 refine hK9 _ _ ?_
 clear hK9 K9
 refine x4x x7x (by rfl) ?_
 refine x1x rfl ?_
 refine u1u (b := 1) rfl rfl (by omega) ?_
 refine x2x rfl ?_
 refine x5x fun K11 hK11 => ?_
 refine x4x x7x (by rfl) ?_
 refine x1x rfl ?_
 refine x1x rfl ?_
 refine z7z rfl rfl u6u rfl z1z rfl (by assumption) ?_
 refine x0x rfl z1z rfl rfl y9y rfl rfl ?_
 refine z3z rfl y9y rfl ?_
 refine x1x rfl ?_
 refine y3y rfl rfl rfl ?_
 refine x8x rfl (fun hc12 => ?_) (fun hc12 => ?_)
 ·(simp [kI, kEv, kOu, kPa, kLa, kVi, mEv, mOu, mSt] at hc12; done)
 try simp at hc12
 refine x9x ?_
 refine hK11 _ _ ?_
 clear hK11 K11
 refine x4x x7x (by rfl) ?_
 refine x1x rfl ?_
 refine u1u (b := 1) rfl rfl (by omega) ?_
 refine x2x rfl ?_
 refine x5x fun K13 hK13 => ?_
 refine x4x x7x (by rfl) ?_
 refine x1x rfl ?_
 refine x1x rfl ?_
 refine z7z rfl rfl u6u rfl z1z rfl (by assumption) ?_
 refine x0x rfl z1z rfl rfl y9y rfl rfl ?_
 refine z3z rfl y9y rfl ?_
 refine x1x rfl ?_
 refine y3y rfl rfl rfl ?_
 refine x8x rfl (fun hc14 => ?_) (fun hc14 => ?_)
 ·(simp [kI, kEv, kOu, kPa, kLa, kVi, mEv, mOu, mSt] at hc14; done)
 try simp at hc14
 refine x9x ?_
 refine hK13 _ _ ?_
 clear hK13 K13
 refine x4x x7x (by rfl) ?_
 refine x1x rfl ?_
 refine u1u (b := 1) rfl rfl (by omega) ?_
 refine x2x rfl ?_
 refine x5x fun K15 hK15 => ?_
 refine x4x x7x (by rfl) ?_
 refine x1x rfl ?_
 refine x1x rfl ?_
 refine z7z rfl rfl u6u rfl z1z rfl (by assumption) ?_
 refine x0x rfl z1z rfl rfl y9y rfl rfl ?_
 refine z3z rfl y9y rfl ?_
 refine x1x rfl ?_
 refine y3y rfl rfl rfl ?_
 refine x8x rfl (fun hc16 => ?_) (fun hc16 => ?_)
 ·(simp [kI, kEv, kOu, kPa, kLa, kVi, mEv, mOu, mSt] at hc16; done)
 try simp at hc16
 refine x9x ?_
 refine hK15 _ _ ?_
 clear hK15 K15
 refine x4x x7x (by rfl) ?_
 refine x1x rfl ?_
 refine u1u (b := 1) rfl rfl (by omega) ?_
 refine x2x rfl ?_
 refine x5x fun K17 hK17 => ?_
 refine x4x x7x (by rfl) ?_
 refine x1x rfl ?_
 refine x1x rfl ?_
 refine z7z rfl rfl u6u rfl z1z rfl (by assumption) ?_
 refine x0x rfl z1z rfl rfl y9y rfl rfl ?_
 refine z3z rfl y9y rfl ?_
 refine x1x rfl ?_
 refine y3y rfl rfl rfl ?_
 refine x8x rfl (fun hc18 => ?_) (fun hc18 => ?_)
 ·(simp [kI, kEv, kOu, kPa, kLa, kVi, mEv, mOu, mSt] at hc18; done)
 try simp at hc18
 refine x9x ?_
 refine hK17 _ _ ?_
 clear hK17 K17
 refine y4y x7x (by rfl) ?_
 refine x1x rfl ?_
 refine u1u (b := 1) rfl rfl (by omega) ?_
 refine x2x rfl ?_
 refine hK4 _ _ ?_
 clear hK4 K4
 refine y4y x7x (by rfl) ?_
 refine x1x rfl ?_
 refine u1u (b := 1) rfl rfl (by omega) ?_
 refine x2x rfl ?_
 exact ⟨i + 1, ⟨by omega, by omega⟩, [], (Cov.cons' (t := 1) rfl (by rw [a0l zEv hp]; exact congrArg (fun v : Nat => AV.pv (.int .i64 (v : Int))) (by omega)) (Cov.cons (t := 5) rfl Cov.nil)), (Cov.cons (t := 0) rfl Cov.nil), HE.nil, HE.nil, rfl⟩
theorem a9w (c : Bool) (l : List Ou) (k : Nat) (hk : k + szs zOu l ≤ 1000000000) : a0o Tryz.prog 92 [a0z c (mks zOu kOu k l), .pv (.int .i64 (k : Int))] (.pv (.int .i64 ((k + szs zOu l : Nat) : Int))) := by
 refine z4z x7x (fn := Tryz.f92) (by kernel_rfl) (by kernel_rfl) rfl (outs := [.pv (.int .i64 ((k + szs zOu l : Nat) : Int))]) (by rfl) (Nat.le_of_ble_eq_true rfl) 0 ?_
 have hml := a4p zOu kOu k l
 have hll := a4q zOu (fun p => by unfold zOu; omega) l
 refine x4x x7x (by rfl) ?_
 refine x2x rfl ?_
 refine x5x fun K1 hK1 => ?_
 refine x4x x7x (by rfl) ?_
 refine x2x rfl ?_
 refine y6y ?_
 refine u4u (ι := Nat) (fun i γ1 => [(1, .pv (.int .i64 ((k + szs zOu (l.take i) : Nat) : Int))), (5, .pv (.int .i64 (i : Int)))]) (fun i γ1 => []) (fun i => i ≤ l.length) (fun i => l.length - i) (Cov.cons (t := 0) rfl Cov.nil) HE.nil 0 (by omega) [] (Cov.cons' (t := 1) rfl (by rw [List.take_zero]; rfl) (Cov.cons (t := 5) rfl Cov.nil)) HE.nil rfl fun i γ1 hi => ?_
 try dsimp only [List.cons_append, List.nil_append]
 refine x5x fun K2 hK2 => ?_
 refine x4x x7x (by rfl) ?_
 refine x1x rfl ?_
 refine x1x rfl ?_
 refine u2u rfl u7u rfl ?_
 refine y3y rfl rfl rfl ?_
 refine x8x rfl (fun hc3 => ?_) (fun hc3 => ?_)
 rotate_left
 ·try simp at hc3
  obtain rfl : i = l.length := by omega
  refine v0v ?_
  refine hK1 _ _ ?_
  clear hK2 K2 hK1 K1
  refine x4x x7x (by rfl) ?_
  refine x1x rfl ?_
  refine x2x rfl ?_
  refine y0y ⟨.inr rfl, ?_⟩
  refine z0z rfl ?_ rfl
  rw [List.take_length]
 try simp at hc3
 obtain ⟨p, hp⟩ : ∃ p, l[i]? = some p := ⟨_, List.getElem?_eq_getElem (by omega)⟩
 have hmk := a4r zOu kOu (k := k) hp
 have hat := a2t zOu hp
 have hzp : zOu p = 5 := rfl
 obtain ⟨q, hq⟩ : ∃ q, q = k + szs zOu (l.take i) := ⟨_, rfl⟩
 rw [← hq] at hmk ⊢
 refine x9x ?_
 refine hK2 _ _ ?_
 clear hK2 K2
 refine x5x fun K4 hK4 => ?_
 refine y6y ?_
 refine x5x fun K5 hK5 => ?_
 refine x4x x7x (by rfl) ?_
 refine x1x rfl ?_
 refine x1x rfl ?_
 refine z7z rfl rfl u7u rfl u0u rfl (by assumption) ?_
 refine x0x rfl u0u rfl rfl y9y rfl rfl ?_
 refine z3z rfl y9y rfl ?_
 refine x1x rfl ?_
 refine y3y rfl rfl rfl ?_
 refine x8x rfl (fun hc6 => ?_) (fun hc6 => ?_)
 ·(simp [kI, kEv, kOu, kPa, kLa, kVi, mEv, mOu, mSt] at hc6; done)
 try simp at hc6
 refine x9x ?_
 refine hK5 _ _ ?_
 clear hK5 K5
 refine x4x x7x (by rfl) ?_
 refine x1x rfl ?_
 refine u1u (b := 1) rfl rfl (by omega) ?_
 refine x2x rfl ?_
 refine x5x fun K7 hK7 => ?_
 refine x4x x7x (by rfl) ?_
 refine x1x rfl ?_
 refine x1x rfl ?_
 refine z7z rfl rfl u7u rfl u0u rfl (by assumption) ?_
 refine x0x rfl u0u rfl rfl y9y rfl rfl ?_
 refine z3z rfl y9y rfl ?_
 refine x1x rfl ?_
 refine y3y rfl rfl rfl ?_
 refine x8x rfl (fun hc8 => ?_) (fun hc8 => ?_)
 ·(simp [kI, kEv, kOu, kPa, kLa, kVi, mEv, mOu, mSt] at hc8; done)
 try simp at hc8
 refine x9x ?_
 refine hK7 _ _ ?_
 clear hK7 K7
 refine x4x x7x (by rfl) ?_
 refine x1x rfl ?_
 refine u1u (b := 1) rfl rfl (by omega) ?_
 refine x2x rfl ?_
 refine x5x fun K9 hK9 => ?_
 refine x4x x7x (by rfl) ?_
 refine x1x rfl ?_
 refine x1x rfl ?_
 refine z7z rfl rfl u7u rfl u0u rfl (by assumption) ?_
 refine x0x rfl u0u rfl rfl y9y rfl rfl ?_
 refine z3z rfl y9y rfl ?_
 refine x1x rfl ?_
 refine y3y rfl rfl rfl ?_
 refine x8x rfl (fun hc10 => ?_) (fun hc10 => ?_)
 ·(simp [kI, kEv, kOu, kPa, kLa, kVi, mEv, mOu, mSt] at hc10; done)
 try simp at hc10
 refine x9x ?_
 refine hK9 _ _ ?_
 clear hK9 K9
 refine x4x x7x (by rfl) ?_
 refine x1x rfl ?_
 refine u1u (b := 1) rfl rfl (by omega) ?_
 refine x2x rfl ?_
 refine x5x fun K11 hK11 => ?_
 refine x4x x7x (by rfl) ?_
 refine x1x rfl ?_
 refine x1x rfl ?_
 refine z7z rfl rfl u7u rfl u0u rfl (by assumption) ?_
 refine x0x rfl u0u rfl rfl y9y rfl rfl ?_
 refine z3z rfl y9y rfl ?_
 refine x1x rfl ?_
 refine y3y rfl rfl rfl ?_
 refine x8x rfl (fun hc12 => ?_) (fun hc12 => ?_)
 ·(simp [kI, kEv, kOu, kPa, kLa, kVi, mEv, mOu, mSt] at hc12; done)
 try simp at hc12
 refine x9x ?_
 refine hK11 _ _ ?_
 clear hK11 K11
 refine x4x x7x (by rfl) ?_
 refine x1x rfl ?_
 refine u1u (b := 1) rfl rfl (by omega) ?_
 refine x2x rfl ?_
 refine x5x fun K13 hK13 => ?_
 refine x4x x7x (by rfl) ?_
 refine x1x rfl ?_
 refine x1x rfl ?_
 refine z7z rfl rfl u7u rfl u0u rfl (by assumption) ?_
 refine x0x rfl u0u rfl rfl y9y rfl rfl ?_
 refine z3z rfl y9y rfl ?_
 refine x1x rfl ?_
 refine y3y rfl rfl rfl ?_
 refine x8x rfl (fun hc14 => ?_) (fun hc14 => ?_)
 ·(simp [kI, kEv, kOu, kPa, kLa, kVi, mEv, mOu, mSt] at hc14; done)
 try simp at hc14
 refine x9x ?_
 refine hK13 _ _ ?_
 clear hK13 K13
 refine y4y x7x (by rfl) ?_
 refine x1x rfl ?_
 refine u1u (b := 1) rfl rfl (by omega) ?_
 refine x2x rfl ?_
 refine hK4 _ _ ?_
 clear hK4 K4
 refine y4y x7x (by rfl) ?_
 refine x1x rfl ?_
 refine u1u (b := 1) rfl rfl (by omega) ?_
 refine x2x rfl ?_
 exact ⟨i + 1, ⟨by omega, by omega⟩, [], (Cov.cons' (t := 1) rfl (by rw [a0l zOu hp]; exact congrArg (fun v : Nat => AV.pv (.int .i64 (v : Int))) (by omega)) (Cov.cons (t := 5) rfl Cov.nil)), (Cov.cons (t := 0) rfl Cov.nil), HE.nil, HE.nil, rfl⟩
theorem b4v (c : Bool) (l : List Pa) (k : Nat) (hk : k + szs zPa l ≤ 1000000000) : a0o Tryz.prog 180 [a4j c (mks zPa kPa k l), .pv (.int .i64 (k : Int))] (.pv (.int .i64 ((k + szs zPa l : Nat) : Int))) := by
 refine z4z x7x (fn := Tryz.f180) (by kernel_rfl) (by kernel_rfl) rfl (outs := [.pv (.int .i64 ((k + szs zPa l : Nat) : Int))]) (by rfl) (Nat.le_of_ble_eq_true rfl) 0 ?_
 have hml := a4p zPa kPa k l
 have hll := a4q zPa (fun p => by unfold zPa; omega) l
 refine x4x x7x (by rfl) ?_
 refine x2x rfl ?_
 refine x5x fun K1 hK1 => ?_
 refine x4x x7x (by rfl) ?_
 refine x2x rfl ?_
 refine y6y ?_
 refine u4u (ι := Nat) (fun i γ1 => [(1, .pv (.int .i64 ((k + szs zPa (l.take i) : Nat) : Int))), (5, .pv (.int .i64 (i : Int)))]) (fun i γ1 => []) (fun i => i ≤ l.length) (fun i => l.length - i) (Cov.cons (t := 0) rfl Cov.nil) HE.nil 0 (by omega) [] (Cov.cons' (t := 1) rfl (by rw [List.take_zero]; rfl) (Cov.cons (t := 5) rfl Cov.nil)) HE.nil rfl fun i γ1 hi => ?_
 try dsimp only [List.cons_append, List.nil_append]
 refine x5x fun K2 hK2 => ?_
 refine x4x x7x (by rfl) ?_
 refine x1x rfl ?_
 refine x1x rfl ?_
 refine u2u rfl v3v rfl ?_
 refine y3y rfl rfl rfl ?_
 refine x8x rfl (fun hc3 => ?_) (fun hc3 => ?_)
 rotate_left
 ·try simp at hc3
  obtain rfl : i = l.length := by omega
  refine v0v ?_
  refine hK1 _ _ ?_
  clear hK2 K2 hK1 K1
  refine x4x x7x (by rfl) ?_
  refine x1x rfl ?_
  refine x2x rfl ?_
  refine y0y ⟨.inr rfl, ?_⟩
  refine z0z rfl ?_ rfl
  rw [List.take_length]
 try simp at hc3
 obtain ⟨p, hp⟩ : ∃ p, l[i]? = some p := ⟨_, List.getElem?_eq_getElem (by omega)⟩
 have hmk := a4r zPa kPa (k := k) hp
 have hat := a2t zPa hp
 have hzp : zPa p = 10 + szs zEv p.sends + szs zOu p.outs := rfl
 obtain ⟨q, hq⟩ : ∃ q, q = k + szs zPa (l.take i) := ⟨_, rfl⟩
 rw [← hq] at hmk ⊢
 refine x9x ?_
 refine hK2 _ _ ?_
 clear hK2 K2
 refine x5x fun K4 hK4 => ?_
 refine y6y ?_
 refine x5x fun K5 hK5 => ?_
 refine x4x x7x (by rfl) ?_
 refine x1x rfl ?_
 refine x1x rfl ?_
 refine z7z rfl rfl v3v rfl v8v rfl (by assumption) ?_
 refine x0x rfl v8v rfl rfl z1z rfl rfl ?_
 refine x0x rfl z1z rfl rfl y9y rfl rfl ?_
 refine z3z rfl y9y rfl ?_
 refine x1x rfl ?_
 refine y3y rfl rfl rfl ?_
 refine x8x rfl (fun hc6 => ?_) (fun hc6 => ?_)
 ·(simp [kI, kEv, kOu, kPa, kLa, kVi, mEv, mOu, mSt] at hc6; done)
 try simp at hc6
 refine x9x ?_
 refine hK5 _ _ ?_
 clear hK5 K5
 refine x4x x7x (by rfl) ?_
 refine x1x rfl ?_
 refine u1u (b := 1) rfl rfl (by omega) ?_
 refine x2x rfl ?_
 refine x5x fun K7 hK7 => ?_
 refine x4x x7x (by rfl) ?_
 refine x1x rfl ?_
 refine x1x rfl ?_
 refine z7z rfl rfl v3v rfl v8v rfl (by assumption) ?_
 refine x0x rfl v8v rfl rfl z1z rfl rfl ?_
 refine x0x rfl z1z rfl rfl y9y rfl rfl ?_
 refine z3z rfl y9y rfl ?_
 refine x1x rfl ?_
 refine y3y rfl rfl rfl ?_
 refine x8x rfl (fun hc8 => ?_) (fun hc8 => ?_)
 ·(simp [kI, kEv, kOu, kPa, kLa, kVi, mEv, mOu, mSt] at hc8; done)
 try simp at hc8
 refine x9x ?_
 refine hK7 _ _ ?_
 clear hK7 K7
 refine x4x x7x (by rfl) ?_
 refine x1x rfl ?_
 refine u1u (b := 1) rfl rfl (by omega) ?_
 refine x2x rfl ?_
 refine x5x fun K9 hK9 => ?_
 refine x4x x7x (by rfl) ?_
 refine x1x rfl ?_
 refine x1x rfl ?_
 refine z7z rfl rfl v3v rfl v8v rfl (by assumption) ?_
 refine x0x rfl v8v rfl rfl z1z rfl rfl ?_
 refine x0x rfl z1z rfl rfl y9y rfl rfl ?_
 refine z3z rfl y9y rfl ?_
 refine x1x rfl ?_
 refine y3y rfl rfl rfl ?_
 refine x8x rfl (fun hc10 => ?_) (fun hc10 => ?_)
 ·(simp [kI, kEv, kOu, kPa, kLa, kVi, mEv, mOu, mSt] at hc10; done)
 try simp at hc10
 refine x9x ?_
 refine hK9 _ _ ?_
 clear hK9 K9
 refine x4x x7x (by rfl) ?_
 refine x1x rfl ?_
 refine u1u (b := 1) rfl rfl (by omega) ?_
 refine x2x rfl ?_
 refine x5x fun K11 hK11 => ?_
 refine x4x x7x (by rfl) ?_
 refine x1x rfl ?_
 refine x1x rfl ?_
 refine z7z rfl rfl v3v rfl v8v rfl (by assumption) ?_
 refine x0x rfl v8v rfl rfl z1z rfl rfl ?_
 refine x0x rfl z1z rfl rfl y9y rfl rfl ?_
 refine z3z rfl y9y rfl ?_
 refine x1x rfl ?_
 refine y3y rfl rfl rfl ?_
 refine x8x rfl (fun hc12 => ?_) (fun hc12 => ?_)
 ·(simp [kI, kEv, kOu, kPa, kLa, kVi, mEv, mOu, mSt] at hc12; done)
 try simp at hc12
 refine x9x ?_
 refine hK11 _ _ ?_
 clear hK11 K11
 refine x4x x7x (by rfl) ?_
 refine x1x rfl ?_
 refine u1u (b := 1) rfl rfl (by omega) ?_
 refine x2x rfl ?_
 refine x5x fun K13 hK13 => ?_
 refine x4x x7x (by rfl) ?_
 refine x1x rfl ?_
 refine x1x rfl ?_
 refine z7z rfl rfl v3v rfl v8v rfl (by assumption) ?_
 refine x0x rfl v8v rfl rfl z1z rfl rfl ?_
 refine x0x rfl z1z rfl rfl y9y rfl rfl ?_
 refine z3z rfl y9y rfl ?_
 refine x1x rfl ?_
 refine y3y rfl rfl rfl ?_
 refine x8x rfl (fun hc14 => ?_) (fun hc14 => ?_)
 ·(simp [kI, kEv, kOu, kPa, kLa, kVi, mEv, mOu, mSt] at hc14; done)
 try simp at hc14
 refine x9x ?_
 refine hK13 _ _ ?_
 clear hK13 K13
 refine x4x x7x (by rfl) ?_
 refine x1x rfl ?_
 refine u1u (b := 1) rfl rfl (by omega) ?_
 refine x2x rfl ?_
 refine x5x fun K15 hK15 => ?_
 refine x4x x7x (by rfl) ?_
 refine x1x rfl ?_
 refine x1x rfl ?_
 refine z7z rfl rfl v3v rfl v8v rfl (by assumption) ?_
 refine x0x rfl v8v rfl rfl z1z rfl rfl ?_
 refine x0x rfl z1z rfl rfl y9y rfl rfl ?_
 refine z3z rfl y9y rfl ?_
 refine x1x rfl ?_
 refine y3y rfl rfl rfl ?_
 refine x8x rfl (fun hc16 => ?_) (fun hc16 => ?_)
 ·(simp [kI, kEv, kOu, kPa, kLa, kVi, mEv, mOu, mSt] at hc16; done)
 try simp at hc16
 refine x9x ?_
 refine hK15 _ _ ?_
 clear hK15 K15
 refine x4x x7x (by rfl) ?_
 refine x1x rfl ?_
 refine u1u (b := 1) rfl rfl (by omega) ?_
 refine x2x rfl ?_
 refine x5x fun K17 hK17 => ?_
 refine x4x x7x (by rfl) ?_
 refine x1x rfl ?_
 refine x1x rfl ?_
 refine z7z rfl rfl v3v rfl v8v rfl (by assumption) ?_
 refine x0x rfl v8v rfl rfl z1z rfl rfl ?_
 refine x0x rfl z1z rfl rfl y9y rfl rfl ?_
 refine z3z rfl y9y rfl ?_
 refine x1x rfl ?_
 refine y3y rfl rfl rfl ?_
 refine x8x rfl (fun hc18 => ?_) (fun hc18 => ?_)
 ·(simp [kI, kEv, kOu, kPa, kLa, kVi, mEv, mOu, mSt] at hc18; done)
 try simp at hc18
 refine x9x ?_
 refine hK17 _ _ ?_
 clear hK17 K17
 refine x4x x7x (by rfl) ?_
 refine x1x rfl ?_
 refine u1u (b := 1) rfl rfl (by omega) ?_
 refine x2x rfl ?_
 refine x5x fun K19 hK19 => ?_
 refine x4x x7x (by rfl) ?_
 refine x1x rfl ?_
 refine x1x rfl ?_
 refine z7z rfl rfl v3v rfl v8v rfl (by assumption) ?_
 refine x0x rfl v8v rfl rfl p5p rfl rfl ?_
 refine x0x rfl p5p rfl rfl y9y rfl rfl ?_
 refine z3z rfl y9y rfl ?_
 refine x1x rfl ?_
 refine y3y rfl rfl rfl ?_
 refine x8x rfl (fun hc20 => ?_) (fun hc20 => ?_)
 ·(simp [kI, kEv, kOu, kPa, kLa, kVi, mEv, mOu, mSt] at hc20; omega)
 try simp at hc20
 refine x9x ?_
 refine hK19 _ _ ?_
 clear hK19 K19
 refine x4x x7x (by rfl) ?_
 refine x1x rfl ?_
 refine u1u (b := 1) rfl rfl (by omega) ?_
 refine x2x rfl ?_
 refine x5x fun K21 hK21 => ?_
 refine x4x x7x (by rfl) ?_
 refine x1x rfl ?_
 refine x1x rfl ?_
 refine z7z rfl rfl v3v rfl v8v rfl (by assumption) ?_
 refine x0x rfl v8v rfl rfl p5p rfl rfl ?_
 refine x0x rfl p5p rfl rfl y9y rfl rfl ?_
 refine z3z rfl y9y rfl ?_
 refine x1x rfl ?_
 refine y3y rfl rfl rfl ?_
 refine x8x rfl (fun hc22 => ?_) (fun hc22 => ?_)
 ·(simp [kI, kEv, kOu, kPa, kLa, kVi, mEv, mOu, mSt] at hc22; omega)
 try simp at hc22
 refine x9x ?_
 refine hK21 _ _ ?_
 clear hK21 K21
 refine x4x x7x (by rfl) ?_
 refine x1x rfl ?_
 refine u1u (b := 1) rfl rfl (by omega) ?_
 refine x2x rfl ?_
 refine x5x fun K23 hK23 => ?_
 refine x4x x7x (by rfl) ?_
 refine x1x rfl ?_
 refine x1x rfl ?_
 refine z7z rfl rfl v3v rfl v8v rfl (by assumption) ?_
 refine x0x rfl v8v rfl rfl p5p rfl rfl ?_
 refine x0x rfl p5p rfl rfl y9y rfl rfl ?_
 refine z3z rfl y9y rfl ?_
 refine x1x rfl ?_
 refine y3y rfl rfl rfl ?_
 refine x8x rfl (fun hc24 => ?_) (fun hc24 => ?_)
 ·(simp [kI, kEv, kOu, kPa, kLa, kVi, mEv, mOu, mSt] at hc24; omega)
 try simp at hc24
 refine x9x ?_
 refine hK23 _ _ ?_
 clear hK23 K23
 refine x4x x7x (by rfl) ?_
 refine x1x rfl ?_
 refine u1u (b := 1) rfl rfl (by omega) ?_
 refine x2x rfl ?_
 refine x4x x7x (by rfl) ?_
 refine x1x rfl ?_
 refine x1x rfl ?_
 refine z7z rfl rfl v3v rfl v8v rfl (by assumption) ?_
 refine x0x rfl v8v rfl rfl u6u rfl rfl ?_
 refine z3z rfl u6u rfl ?_
 refine x1x rfl ?_
 refine y7y rfl rfl rfl (a3w c p.sends (q + 10) (by omega)) ?_
 refine x2x rfl ?_
 refine x5x fun K25 hK25 => ?_
 refine x4x x7x (by rfl) ?_
 refine x1x rfl ?_
 refine y3y rfl rfl rfl ?_
 refine x8x rfl (fun hc26 => ?_) (fun hc26 => ?_)
 ·(simp [kI, kEv, kOu, kPa, kLa, kVi, mEv, mOu, mSt] at hc26; omega)
 try simp at hc26
 refine x9x ?_
 refine hK25 _ _ ?_
 clear hK25 K25
 refine x4x x7x (by rfl) ?_
 refine x1x rfl ?_
 refine x1x rfl ?_
 refine z7z rfl rfl v3v rfl v8v rfl (by assumption) ?_
 refine x0x rfl v8v rfl rfl u7u rfl rfl ?_
 refine z3z rfl u7u rfl ?_
 refine x1x rfl ?_
 refine y7y rfl rfl rfl (a9w c p.outs (q + 10 + szs zEv p.sends) (by omega)) ?_
 refine x2x rfl ?_
 refine x4x x7x (by rfl) ?_
 refine x1x rfl ?_
 refine y3y rfl rfl rfl ?_
 refine x8x rfl (fun hc27 => ?_) (fun hc27 => ?_)
 ·(simp [kI, kEv, kOu, kPa, kLa, kVi, mEv, mOu, mSt] at hc27; omega)
 try simp at hc27
 refine x9x ?_
 refine hK4 _ _ ?_
 clear hK4 K4
 refine y4y x7x (by rfl) ?_
 refine x1x rfl ?_
 refine u1u (b := 1) rfl rfl (by omega) ?_
 refine x2x rfl ?_
 exact ⟨i + 1, ⟨by omega, by omega⟩, [], (Cov.cons' (t := 1) rfl (by rw [a0l zPa hp]; exact congrArg (fun v : Nat => AV.pv (.int .i64 (v : Int))) (by omega)) (Cov.cons (t := 5) rfl Cov.nil)), (Cov.cons (t := 0) rfl Cov.nil), HE.nil, HE.nil, rfl⟩
theorem b4w (c : Bool) (l : List La) (k : Nat) (hk : k + szs zLa l ≤ 1000000000) : a0o Tryz.prog 90 [c1h c (mks zLa kLa k l), .pv (.int .i64 (k : Int))] (.pv (.int .i64 ((k + szs zLa l : Nat) : Int))) := by
 refine z4z x7x (fn := Tryz.f90) (by kernel_rfl) (by kernel_rfl) rfl (outs := [.pv (.int .i64 ((k + szs zLa l : Nat) : Int))]) (by rfl) (Nat.le_of_ble_eq_true rfl) 0 ?_
 have hml := a4p zLa kLa k l
 have hll := a4q zLa (fun p => by unfold zLa; omega) l
 refine x4x x7x (by rfl) ?_
 refine x2x rfl ?_
 refine x5x fun K1 hK1 => ?_
 refine x4x x7x (by rfl) ?_
 refine x2x rfl ?_
 refine y6y ?_
 refine u4u (ι := Nat) (fun i γ1 => [(1, .pv (.int .i64 ((k + szs zLa (l.take i) : Nat) : Int))), (5, .pv (.int .i64 (i : Int)))]) (fun i γ1 => []) (fun i => i ≤ l.length) (fun i => l.length - i) (Cov.cons (t := 0) rfl Cov.nil) HE.nil 0 (by omega) [] (Cov.cons' (t := 1) rfl (by rw [List.take_zero]; rfl) (Cov.cons (t := 5) rfl Cov.nil)) HE.nil rfl fun i γ1 hi => ?_
 try dsimp only [List.cons_append, List.nil_append]
 refine x5x fun K2 hK2 => ?_
 refine x4x x7x (by rfl) ?_
 refine x1x rfl ?_
 refine x1x rfl ?_
 refine u2u rfl w1w rfl ?_
 refine y3y rfl rfl rfl ?_
 refine x8x rfl (fun hc3 => ?_) (fun hc3 => ?_)
 rotate_left
 ·try simp at hc3
  obtain rfl : i = l.length := by omega
  refine v0v ?_
  refine hK1 _ _ ?_
  clear hK2 K2 hK1 K1
  refine x4x x7x (by rfl) ?_
  refine x1x rfl ?_
  refine x2x rfl ?_
  refine y0y ⟨.inr rfl, ?_⟩
  refine z0z rfl ?_ rfl
  rw [List.take_length]
 try simp at hc3
 obtain ⟨p, hp⟩ : ∃ p, l[i]? = some p := ⟨_, List.getElem?_eq_getElem (by omega)⟩
 have hmk := a4r zLa kLa (k := k) hp
 have hat := a2t zLa hp
 have hzp : zLa p = 4 + szs zPa p.done := rfl
 obtain ⟨q, hq⟩ : ∃ q, q = k + szs zLa (l.take i) := ⟨_, rfl⟩
 rw [← hq] at hmk ⊢
 refine x9x ?_
 refine hK2 _ _ ?_
 clear hK2 K2
 refine x5x fun K4 hK4 => ?_
 refine y6y ?_
 refine x5x fun K5 hK5 => ?_
 refine x4x x7x (by rfl) ?_
 refine x1x rfl ?_
 refine x1x rfl ?_
 refine z7z rfl rfl w1w rfl v2v rfl (by assumption) ?_
 refine x0x rfl v2v rfl rfl y9y rfl rfl ?_
 refine z3z rfl y9y rfl ?_
 refine x1x rfl ?_
 refine y3y rfl rfl rfl ?_
 refine x8x rfl (fun hc6 => ?_) (fun hc6 => ?_)
 ·(simp [kI, kEv, kOu, kPa, kLa, kVi, mEv, mOu, mSt] at hc6; done)
 try simp at hc6
 refine x9x ?_
 refine hK5 _ _ ?_
 clear hK5 K5
 refine x4x x7x (by rfl) ?_
 refine x1x rfl ?_
 refine u1u (b := 1) rfl rfl (by omega) ?_
 refine x2x rfl ?_
 refine x5x fun K7 hK7 => ?_
 refine x4x x7x (by rfl) ?_
 refine x1x rfl ?_
 refine x1x rfl ?_
 refine z7z rfl rfl w1w rfl v2v rfl (by assumption) ?_
 refine x0x rfl v2v rfl rfl p5p rfl rfl ?_
 refine x0x rfl p5p rfl rfl y9y rfl rfl ?_
 refine z3z rfl y9y rfl ?_
 refine x1x rfl ?_
 refine y3y rfl rfl rfl ?_
 refine x8x rfl (fun hc8 => ?_) (fun hc8 => ?_)
 ·(simp [kI, kEv, kOu, kPa, kLa, kVi, mEv, mOu, mSt] at hc8; done)
 try simp at hc8
 refine x9x ?_
 refine hK7 _ _ ?_
 clear hK7 K7
 refine x4x x7x (by rfl) ?_
 refine x1x rfl ?_
 refine u1u (b := 1) rfl rfl (by omega) ?_
 refine x2x rfl ?_
 refine x5x fun K9 hK9 => ?_
 refine x4x x7x (by rfl) ?_
 refine x1x rfl ?_
 refine x1x rfl ?_
 refine z7z rfl rfl w1w rfl v2v rfl (by assumption) ?_
 refine x0x rfl v2v rfl rfl p5p rfl rfl ?_
 refine x0x rfl p5p rfl rfl y9y rfl rfl ?_
 refine z3z rfl y9y rfl ?_
 refine x1x rfl ?_
 refine y3y rfl rfl rfl ?_
 refine x8x rfl (fun hc10 => ?_) (fun hc10 => ?_)
 ·(simp [kI, kEv, kOu, kPa, kLa, kVi, mEv, mOu, mSt] at hc10; done)
 try simp at hc10
 refine x9x ?_
 refine hK9 _ _ ?_
 clear hK9 K9
 refine x4x x7x (by rfl) ?_
 refine x1x rfl ?_
 refine u1u (b := 1) rfl rfl (by omega) ?_
 refine x2x rfl ?_
 refine x5x fun K11 hK11 => ?_
 refine x4x x7x (by rfl) ?_
 refine x1x rfl ?_
 refine x1x rfl ?_
 refine z7z rfl rfl w1w rfl v2v rfl (by assumption) ?_
 refine x0x rfl v2v rfl rfl p5p rfl rfl ?_
 refine x0x rfl p5p rfl rfl y9y rfl rfl ?_
 refine z3z rfl y9y rfl ?_
 refine x1x rfl ?_
 refine y3y rfl rfl rfl ?_
 refine x8x rfl (fun hc12 => ?_) (fun hc12 => ?_)
 ·(simp [kI, kEv, kOu, kPa, kLa, kVi, mEv, mOu, mSt] at hc12; done)
 try simp at hc12
 refine x9x ?_
 refine hK11 _ _ ?_
 clear hK11 K11
 refine x4x x7x (by rfl) ?_
 refine x1x rfl ?_
 refine u1u (b := 1) rfl rfl (by omega) ?_
 refine x2x rfl ?_
 refine x4x x7x (by rfl) ?_
 refine x1x rfl ?_
 refine x1x rfl ?_
 refine z7z rfl rfl w1w rfl v2v rfl (by assumption) ?_
 refine x0x rfl v2v rfl rfl v3v rfl rfl ?_
 refine z3z rfl v3v rfl ?_
 refine x1x rfl ?_
 refine y7y rfl rfl rfl (b4v c p.done (q + 4) (by omega)) ?_
 refine x2x rfl ?_
 refine x4x x7x (by rfl) ?_
 refine x1x rfl ?_
 refine y3y rfl rfl rfl ?_
 refine x8x rfl (fun hc13 => ?_) (fun hc13 => ?_)
 ·(simp [kI, kEv, kOu, kPa, kLa, kVi, mEv, mOu, mSt] at hc13; omega)
 try simp at hc13
 refine x9x ?_
 refine hK4 _ _ ?_
 clear hK4 K4
 refine y4y x7x (by rfl) ?_
 refine x1x rfl ?_
 refine u1u (b := 1) rfl rfl (by omega) ?_
 refine x2x rfl ?_
 exact ⟨i + 1, ⟨by omega, by omega⟩, [], (Cov.cons' (t := 1) rfl (by rw [a0l zLa hp]; exact congrArg (fun v : Nat => AV.pv (.int .i64 (v : Int))) (by omega)) (Cov.cons (t := 5) rfl Cov.nil)), (Cov.cons (t := 0) rfl Cov.nil), HE.nil, HE.nil, rfl⟩
theorem b4x (c : Bool) (l : List Vi) (k : Nat) (hk : k + szs zVi l ≤ 1000000000) : a0o Tryz.prog 93 [c1i c (mks zVi kVi k l), .pv (.int .i64 (k : Int))] (.pv (.int .i64 ((k + szs zVi l : Nat) : Int))) := by
 refine z4z x7x (fn := Tryz.f93) (by kernel_rfl) (by kernel_rfl) rfl (outs := [.pv (.int .i64 ((k + szs zVi l : Nat) : Int))]) (by rfl) (Nat.le_of_ble_eq_true rfl) 0 ?_
 have hml := a4p zVi kVi k l
 have hll := a4q zVi (fun p => by unfold zVi; omega) l
 refine x4x x7x (by rfl) ?_
 refine x2x rfl ?_
 refine x5x fun K1 hK1 => ?_
 refine x4x x7x (by rfl) ?_
 refine x2x rfl ?_
 refine y6y ?_
 refine u4u (ι := Nat) (fun i γ1 => [(1, .pv (.int .i64 ((k + szs zVi (l.take i) : Nat) : Int))), (5, .pv (.int .i64 (i : Int)))]) (fun i γ1 => []) (fun i => i ≤ l.length) (fun i => l.length - i) (Cov.cons (t := 0) rfl Cov.nil) HE.nil 0 (by omega) [] (Cov.cons' (t := 1) rfl (by rw [List.take_zero]; rfl) (Cov.cons (t := 5) rfl Cov.nil)) HE.nil rfl fun i γ1 hi => ?_
 try dsimp only [List.cons_append, List.nil_append]
 refine x5x fun K2 hK2 => ?_
 refine x4x x7x (by rfl) ?_
 refine x1x rfl ?_
 refine x1x rfl ?_
 refine u2u rfl p8p rfl ?_
 refine y3y rfl rfl rfl ?_
 refine x8x rfl (fun hc3 => ?_) (fun hc3 => ?_)
 rotate_left
 ·try simp at hc3
  obtain rfl : i = l.length := by omega
  refine v0v ?_
  refine hK1 _ _ ?_
  clear hK2 K2 hK1 K1
  refine x4x x7x (by rfl) ?_
  refine x1x rfl ?_
  refine x2x rfl ?_
  refine y0y ⟨.inr rfl, ?_⟩
  refine z0z rfl ?_ rfl
  rw [List.take_length]
 try simp at hc3
 obtain ⟨p, hp⟩ : ∃ p, l[i]? = some p := ⟨_, List.getElem?_eq_getElem (by omega)⟩
 have hmk := a4r zVi kVi (k := k) hp
 have hat := a2t zVi hp
 have hzp : zVi p = 2 + szs zEv p.events := rfl
 obtain ⟨q, hq⟩ : ∃ q, q = k + szs zVi (l.take i) := ⟨_, rfl⟩
 rw [← hq] at hmk ⊢
 refine x9x ?_
 refine hK2 _ _ ?_
 clear hK2 K2
 refine x5x fun K4 hK4 => ?_
 refine y6y ?_
 refine x5x fun K5 hK5 => ?_
 refine x4x x7x (by rfl) ?_
 refine x1x rfl ?_
 refine x1x rfl ?_
 refine z7z rfl rfl p8p rfl w5w rfl (by assumption) ?_
 refine x0x rfl w5w rfl rfl y9y rfl rfl ?_
 refine z3z rfl y9y rfl ?_
 refine x1x rfl ?_
 refine y3y rfl rfl rfl ?_
 refine x8x rfl (fun hc6 => ?_) (fun hc6 => ?_)
 ·(simp [kI, kEv, kOu, kPa, kLa, kVi, mEv, mOu, mSt] at hc6; done)
 try simp at hc6
 refine x9x ?_
 refine hK5 _ _ ?_
 clear hK5 K5
 refine x4x x7x (by rfl) ?_
 refine x1x rfl ?_
 refine u1u (b := 1) rfl rfl (by omega) ?_
 refine x2x rfl ?_
 refine x5x fun K7 hK7 => ?_
 refine x4x x7x (by rfl) ?_
 refine x1x rfl ?_
 refine x1x rfl ?_
 refine z7z rfl rfl p8p rfl w5w rfl (by assumption) ?_
 refine x0x rfl w5w rfl rfl y9y rfl rfl ?_
 refine z3z rfl y9y rfl ?_
 refine x1x rfl ?_
 refine y3y rfl rfl rfl ?_
 refine x8x rfl (fun hc8 => ?_) (fun hc8 => ?_)
 ·(simp [kI, kEv, kOu, kPa, kLa, kVi, mEv, mOu, mSt] at hc8; done)
 try simp at hc8
 refine x9x ?_
 refine hK7 _ _ ?_
 clear hK7 K7
 refine x4x x7x (by rfl) ?_
 refine x1x rfl ?_
 refine u1u (b := 1) rfl rfl (by omega) ?_
 refine x2x rfl ?_
 refine x4x x7x (by rfl) ?_
 refine x1x rfl ?_
 refine x1x rfl ?_
 refine z7z rfl rfl p8p rfl w5w rfl (by assumption) ?_
 refine x0x rfl w5w rfl rfl u6u rfl rfl ?_
 refine z3z rfl u6u rfl ?_
 refine x1x rfl ?_
 refine y7y rfl rfl rfl (a3w c p.events (q + 2) (by omega)) ?_
 refine x2x rfl ?_
 refine x4x x7x (by rfl) ?_
 refine x1x rfl ?_
 refine y3y rfl rfl rfl ?_
 refine x8x rfl (fun hc9 => ?_) (fun hc9 => ?_)
 ·(simp [kI, kEv, kOu, kPa, kLa, kVi, mEv, mOu, mSt] at hc9; omega)
 try simp at hc9
 refine x9x ?_
 refine hK4 _ _ ?_
 clear hK4 K4
 refine y4y x7x (by rfl) ?_
 refine x1x rfl ?_
 refine u1u (b := 1) rfl rfl (by omega) ?_
 refine x2x rfl ?_
 exact ⟨i + 1, ⟨by omega, by omega⟩, [], (Cov.cons' (t := 1) rfl (by rw [a0l zVi hp]; exact congrArg (fun v : Nat => AV.pv (.int .i64 (v : Int))) (by omega)) (Cov.cons (t := 5) rfl Cov.nil)), (Cov.cons (t := 0) rfl Cov.nil), HE.nil, HE.nil, rfl⟩
theorem a9x (c : Bool) (n : Nd) (k : Nat) (hk : k + zNd n ≤ 1000000000) : a0o Tryz.prog 22 [.agg (a1d c (kNd k n)), .pv (.int .i64 (k : Int))] (.pv (.int .i64 ((k + zNd n : Nat) : Int))) := by
 refine z4z x7x (fn := Tryz.f22) (by kernel_rfl) (by kernel_rfl) rfl (outs := [.pv (.int .i64 ((k + zNd n : Nat) : Int))]) (by rfl) (Nat.le_of_ble_eq_true rfl) 1 ?_
 have hz : zNd n = szs zLa n.lanes + szs zEv n.kept + szs zOu n.outs + szs zVi n.views + szs zI n.known := rfl
 refine x4x x7x (by rfl) ?_
 refine v5v (id := 0) rfl rfl rfl ?_
 refine x2x rfl ?_
 refine x4x x7x (by rfl) ?_
 refine x0x rfl z5z rfl rfl w1w rfl rfl ?_
 refine x3x rfl w1w rfl rfl ?_
 refine x1x rfl ?_
 refine y7y rfl rfl rfl (b4w c n.lanes k (by omega)) ?_
 refine x2x rfl ?_
 refine x5x fun K1 hK1 => ?_
 refine x4x x7x (by rfl) ?_
 refine x1x rfl ?_
 refine y3y rfl rfl rfl ?_
 refine x8x rfl (fun hc2 => ?_) (fun hc2 => ?_)
 ·(simp [kI, kEv, kOu, kPa, kLa, kVi, mEv, mOu, mSt] at hc2; omega)
 try simp at hc2
 refine x9x ?_
 refine hK1 _ _ ?_
 clear hK1 K1
 refine x4x x7x (by rfl) ?_
 refine x0x rfl z5z rfl rfl u6u rfl rfl ?_
 refine x3x rfl u6u rfl rfl ?_
 refine x1x rfl ?_
 refine y7y rfl rfl rfl (a3w c n.kept (k + szs zLa n.lanes) (by omega)) ?_
 refine x2x rfl ?_
 refine x5x fun K3 hK3 => ?_
 refine x4x x7x (by rfl) ?_
 refine x1x rfl ?_
 refine y3y rfl rfl rfl ?_
 refine x8x rfl (fun hc4 => ?_) (fun hc4 => ?_)
 ·(simp [kI, kEv, kOu, kPa, kLa, kVi, mEv, mOu, mSt] at hc4; omega)
 try simp at hc4
 refine x9x ?_
 refine hK3 _ _ ?_
 clear hK3 K3
 refine x4x x7x (by rfl) ?_
 refine x0x rfl z5z rfl rfl u7u rfl rfl ?_
 refine x3x rfl u7u rfl rfl ?_
 refine x1x rfl ?_
 refine y7y rfl rfl rfl (a9w c n.outs (k + szs zLa n.lanes + szs zEv n.kept) (by omega)) ?_
 refine x2x rfl ?_
 refine x5x fun K5 hK5 => ?_
 refine x4x x7x (by rfl) ?_
 refine x1x rfl ?_
 refine y3y rfl rfl rfl ?_
 refine x8x rfl (fun hc6 => ?_) (fun hc6 => ?_)
 ·(simp [kI, kEv, kOu, kPa, kLa, kVi, mEv, mOu, mSt] at hc6; omega)
 try simp at hc6
 refine x9x ?_
 refine hK5 _ _ ?_
 clear hK5 K5
 refine x4x x7x (by rfl) ?_
 refine x0x rfl z5z rfl rfl p8p rfl rfl ?_
 refine x3x rfl p8p rfl rfl ?_
 refine x1x rfl ?_
 refine y7y rfl rfl rfl (b4x c n.views (k + szs zLa n.lanes + szs zEv n.kept + szs zOu n.outs) (by omega)) ?_
 refine x2x rfl ?_
 refine x5x fun K7 hK7 => ?_
 refine x4x x7x (by rfl) ?_
 refine x1x rfl ?_
 refine y3y rfl rfl rfl ?_
 refine x8x rfl (fun hc8 => ?_) (fun hc8 => ?_)
 ·(simp [kI, kEv, kOu, kPa, kLa, kVi, mEv, mOu, mSt] at hc8; omega)
 try simp at hc8
 refine x9x ?_
 refine hK7 _ _ ?_
 clear hK7 K7
 refine x4x x7x (by rfl) ?_
 refine x0x rfl z5z rfl rfl p3p rfl rfl ?_
 refine x3x rfl p3p rfl rfl ?_
 refine x1x rfl ?_
 refine y7y rfl rfl rfl (b7m c n.known (k + szs zLa n.lanes + szs zEv n.kept + szs zOu n.outs + szs zVi n.views) (by omega)) ?_
 refine x2x rfl ?_
 refine x5x fun K9 hK9 => ?_
 refine x4x x7x (by rfl) ?_
 refine x1x rfl ?_
 refine y3y rfl rfl rfl ?_
 refine x8x rfl (fun hc10 => ?_) (fun hc10 => ?_)
 ·(simp [kI, kEv, kOu, kPa, kLa, kVi, mEv, mOu, mSt] at hc10; omega)
 try simp at hc10
 refine x9x ?_
 refine hK9 _ _ ?_
 clear hK9 K9
 refine x4x x7x (by rfl) ?_
 refine x1x rfl ?_
 refine x2x rfl ?_
 refine y0y ⟨.inr rfl, ?_⟩
 refine z0z rfl ?_ rfl
 exact congrArg (fun v : Nat => [AV.pv (.int .i64 (v : Int))]) (by omega)
end
section
theorem c1n (c : Bool) (l : List Int) (left : Nat) (hl : left ≤ 1048576) : a0o Tryz.prog 98 [a4i c l, .pv (.int .i64 (left : Int))] (.pv (.int .i64 (lf left l.length))) := by
 refine z4z x7x (fn := Tryz.f98) (by kernel_rfl) (by kernel_rfl) rfl (outs := [.pv (.int .i64 (lf left l.length))]) (by rfl) (Nat.le_of_ble_eq_true rfl) 0 ?_
 refine w9w 0 rfl fun hlen => ?_
 refine x4x x7x (by rfl) ?_
 refine x2x rfl ?_
 refine x4x x7x (by rfl) ?_
 refine x1x rfl ?_
 refine x1x rfl ?_
 refine u2u rfl p3p rfl ?_
 refine a2m (.int .i64 ((left : Int) - (l.length : Int))) rfl rfl rfl (b0n rfl rfl (by omega) (by omega)) ?_
 refine x2x rfl ?_
 refine x5x fun K1 hK1 => ?_
 refine x4x x7x (by rfl) ?_
 refine x1x rfl ?_
 refine y3y rfl rfl rfl ?_
 refine x8x rfl (fun hc2 => ?_) (fun hc2 => ?_)
 ·try simp at hc2
  refine x4x x7x (by rfl) ?_
  refine x2x rfl ?_
  refine y0y ⟨.inr rfl, ?_⟩
  clear hK1 K1
  refine z0z rfl ?_ rfl
  exact congrArg (fun v : Int => [AV.pv (.int .i64 v)]) (a3l (by omega)).symm
 try simp at hc2
 refine x9x ?_
 refine hK1 _ _ ?_
 clear hK1 K1
 refine x4x x7x (by rfl) ?_
 refine x1x rfl ?_
 refine x2x rfl ?_
 refine y0y ⟨.inr rfl, ?_⟩
 refine z0z rfl ?_ rfl
 exact congrArg (fun v : Int => [AV.pv (.int .i64 v)]) ((a2e (by omega)).trans (by omega)).symm
theorem a5z (c : Bool) (l : List Ev) (left : Nat) (hl : left ≤ 1048576) : a0o Tryz.prog 51 [a0i c l, .pv (.int .i64 (left : Int))] (.pv (.int .i64 (lf left l.length))) := by
 refine z4z x7x (fn := Tryz.f51) (by kernel_rfl) (by kernel_rfl) rfl (outs := [.pv (.int .i64 (lf left l.length))]) (by rfl) (Nat.le_of_ble_eq_true rfl) 0 ?_
 refine w9w 0 rfl fun hlen => ?_
 refine x4x x7x (by rfl) ?_
 refine x2x rfl ?_
 refine x4x x7x (by rfl) ?_
 refine x1x rfl ?_
 refine x1x rfl ?_
 refine u2u rfl a8f rfl ?_
 refine a2m (.int .i64 ((left : Int) - (l.length : Int))) rfl rfl rfl (b0n rfl rfl (by omega) (by omega)) ?_
 refine x2x rfl ?_
 refine x5x fun K1 hK1 => ?_
 refine x4x x7x (by rfl) ?_
 refine x1x rfl ?_
 refine y3y rfl rfl rfl ?_
 refine x8x rfl (fun hc2 => ?_) (fun hc2 => ?_)
 ·try simp at hc2
  refine x4x x7x (by rfl) ?_
  refine x2x rfl ?_
  refine y0y ⟨.inr rfl, ?_⟩
  clear hK1 K1
  refine z0z rfl ?_ rfl
  exact congrArg (fun v : Int => [AV.pv (.int .i64 v)]) (a3l (by omega)).symm
 try simp at hc2
 refine x9x ?_
 refine hK1 _ _ ?_
 clear hK1 K1
 refine x4x x7x (by rfl) ?_
 refine x1x rfl ?_
 refine x2x rfl ?_
 refine y0y ⟨.inr rfl, ?_⟩
 refine z0z rfl ?_ rfl
 exact congrArg (fun v : Int => [AV.pv (.int .i64 v)]) ((a2e (by omega)).trans (by omega)).symm
theorem b3c (c : Bool) (l : List Ou) (left : Nat) (hl : left ≤ 1048576) : a0o Tryz.prog 96 [a0z c l, .pv (.int .i64 (left : Int))] (.pv (.int .i64 (lf left l.length))) := by
 refine z4z x7x (fn := Tryz.f96) (by kernel_rfl) (by kernel_rfl) rfl (outs := [.pv (.int .i64 (lf left l.length))]) (by rfl) (Nat.le_of_ble_eq_true rfl) 0 ?_
 refine w9w 0 rfl fun hlen => ?_
 refine x4x x7x (by rfl) ?_
 refine x2x rfl ?_
 refine x4x x7x (by rfl) ?_
 refine x1x rfl ?_
 refine x1x rfl ?_
 refine u2u rfl b2g rfl ?_
 refine a2m (.int .i64 ((left : Int) - (l.length : Int))) rfl rfl rfl (b0n rfl rfl (by omega) (by omega)) ?_
 refine x2x rfl ?_
 refine x5x fun K1 hK1 => ?_
 refine x4x x7x (by rfl) ?_
 refine x1x rfl ?_
 refine y3y rfl rfl rfl ?_
 refine x8x rfl (fun hc2 => ?_) (fun hc2 => ?_)
 ·try simp at hc2
  refine x4x x7x (by rfl) ?_
  refine x2x rfl ?_
  refine y0y ⟨.inr rfl, ?_⟩
  clear hK1 K1
  refine z0z rfl ?_ rfl
  exact congrArg (fun v : Int => [AV.pv (.int .i64 v)]) (a3l (by omega)).symm
 try simp at hc2
 refine x9x ?_
 refine hK1 _ _ ?_
 clear hK1 K1
 refine x4x x7x (by rfl) ?_
 refine x1x rfl ?_
 refine x2x rfl ?_
 refine y0y ⟨.inr rfl, ?_⟩
 refine z0z rfl ?_ rfl
 exact congrArg (fun v : Int => [AV.pv (.int .i64 v)]) ((a2e (by omega)).trans (by omega)).symm
theorem c1o (c : Bool) (p : Pa) (left : Nat) (hl : left ≤ 1048576) : a0o Tryz.prog 252 [.agg (a2j c p), .pv (.int .i64 (left : Int))] (.pv (.int .i64 (lf left (cPa p)))) := by
 refine z4z x7x (fn := Tryz.f252) (by kernel_rfl) (by kernel_rfl) rfl (outs := [.pv (.int .i64 (lf left (cPa p)))]) (by rfl) (Nat.le_of_ble_eq_true rfl) 1 ?_
 have hc : cPa p = p.sends.length + p.outs.length := rfl
 refine x4x x7x (by rfl) ?_
 refine v5v (id := 0) rfl rfl rfl ?_
 refine x2x rfl ?_
 refine x4x x7x (by rfl) ?_
 refine x0x rfl a8u rfl rfl a8f rfl rfl ?_
 refine x3x rfl a8f rfl rfl ?_
 refine x1x rfl ?_
 refine y7y rfl rfl rfl (a5z c p.sends left hl) ?_
 refine x2x rfl ?_
 refine x5x fun K1 hK1 => ?_
 refine x4x x7x (by rfl) ?_
 refine x1x rfl ?_
 refine y3y rfl rfl rfl ?_
 refine x8x rfl (fun hc2 => ?_) (fun hc2 => ?_)
 ·try simp at hc2
  have hT := b4q hc2
  refine x4x x7x (by rfl) ?_
  refine x2x rfl ?_
  refine y0y ⟨.inr rfl, ?_⟩
  clear hK1 K1
  refine z0z rfl ?_ rfl
  exact congrArg (fun v : Int => [AV.pv (.int .i64 v)]) (a3l (by omega)).symm
 try simp at hc2
 have h10 : p.sends.length ≤ left := b3w (by omega)
 rw [a2e h10]
 refine x9x ?_
 refine hK1 _ _ ?_
 clear hK1 K1
 refine x4x x7x (by rfl) ?_
 refine x0x rfl a8u rfl rfl b2g rfl rfl ?_
 refine x3x rfl b2g rfl rfl ?_
 refine x1x rfl ?_
 refine y7y rfl rfl rfl (b3c c p.outs (left - p.sends.length) (by omega)) ?_
 refine x2x rfl ?_
 refine x5x fun K3 hK3 => ?_
 refine x4x x7x (by rfl) ?_
 refine x1x rfl ?_
 refine y3y rfl rfl rfl ?_
 refine x8x rfl (fun hc4 => ?_) (fun hc4 => ?_)
 ·try simp at hc4
  have hT := b4q hc4
  refine x4x x7x (by rfl) ?_
  refine x2x rfl ?_
  refine y0y ⟨.inr rfl, ?_⟩
  clear hK3 K3
  refine z0z rfl ?_ rfl
  exact congrArg (fun v : Int => [AV.pv (.int .i64 v)]) (a3l (by omega)).symm
 try simp at hc4
 have h16 : p.outs.length ≤ (left - p.sends.length) := b3w (by omega)
 rw [a2e h16]
 refine x9x ?_
 refine hK3 _ _ ?_
 clear hK3 K3
 refine x4x x7x (by rfl) ?_
 refine x1x rfl ?_
 refine x2x rfl ?_
 refine y0y ⟨.inr rfl, ?_⟩
 refine z0z rfl ?_ rfl
 exact congrArg (fun v : Int => [AV.pv (.int .i64 v)]) ((a2e (by omega)).trans (by omega)).symm
theorem b8l (c : Bool) (l : List Pa) (left : Nat) (hl : left ≤ 1048576) : a0o Tryz.prog 226 [a4j c l, .pv (.int .i64 (left : Int))] (.pv (.int .i64 (lf left (c0y l)))) := by
 refine z4z x7x (fn := Tryz.f226) (by kernel_rfl) (by kernel_rfl) rfl (outs := [.pv (.int .i64 (lf left (c0y l)))]) (by rfl) (Nat.le_of_ble_eq_true rfl) 0 ?_
 refine w9w 0 rfl fun hlen => ?_
 have hc : c0y l = l.length + szs cPa l := rfl
 refine x4x x7x (by rfl) ?_
 refine x2x rfl ?_
 refine x4x x7x (by rfl) ?_
 refine x1x rfl ?_
 refine x1x rfl ?_
 refine u2u rfl a9j rfl ?_
 refine a2m (.int .i64 ((left : Int) - (l.length : Int))) rfl rfl rfl (b0n rfl rfl (by omega) (by omega)) ?_
 refine x2x rfl ?_
 refine x5x fun K1 hK1 => ?_
 refine x4x x7x (by rfl) ?_
 refine x1x rfl ?_
 refine y3y rfl rfl rfl ?_
 refine x8x rfl (fun hc2 => ?_) (fun hc2 => ?_)
 ·try simp at hc2
  refine x4x x7x (by rfl) ?_
  refine x2x rfl ?_
  refine y0y ⟨.inr rfl, ?_⟩
  clear hK1 K1
  refine z0z rfl ?_ rfl
  exact congrArg (fun v : Int => [AV.pv (.int .i64 v)]) (a3l (by omega)).symm
 try simp at hc2
 refine x9x ?_
 refine hK1 _ _ ?_
 clear hK1 K1
 refine x5x fun K3 hK3 => ?_
 refine x4x x7x (by rfl) ?_
 refine x2x rfl ?_
 refine y6y ?_
 refine u4u (ι := Nat) (fun i γ1 => [(1, .pv (.int .i64 ((left - (l.length + szs cPa (l.take i)) : Nat) : Int))), (5, .pv (.int .i64 (i : Int)))]) (fun i γ1 => []) (fun i => i ≤ l.length ∧ l.length + szs cPa (l.take i) ≤ left) (fun i => l.length - i) (Cov.cons (t := 0) rfl Cov.nil) HE.nil 0 ⟨by omega, by rw [List.take_zero]; show l.length + 0 ≤ left; omega⟩ [] (Cov.cons' (t := 1) rfl (by rw [List.take_zero]; exact congrArg (fun v : Int => AV.pv (.int .i64 v)) (by show _ = ((left - (l.length + 0) : Nat) : Int); omega)) (Cov.cons (t := 5) rfl Cov.nil)) HE.nil rfl fun i γ1 hi => ?_
 try dsimp only [List.cons_append, List.nil_append]
 obtain ⟨h1, h2⟩ := hi
 refine x5x fun K4 hK4 => ?_
 refine x4x x7x (by rfl) ?_
 refine x1x rfl ?_
 refine x1x rfl ?_
 refine u2u rfl a9j rfl ?_
 refine y3y rfl rfl rfl ?_
 refine x8x rfl (fun hc5 => ?_) (fun hc5 => ?_)
 rotate_left
 ·try simp at hc5
  obtain rfl : i = l.length := by omega
  rw [List.take_length] at h2 ⊢
  refine v0v ?_
  refine hK3 _ _ ?_
  clear hK4 K4 hK3 K3
  refine x4x x7x (by rfl) ?_
  refine x1x rfl ?_
  refine x2x rfl ?_
  refine y0y ⟨.inr rfl, ?_⟩
  refine z0z rfl ?_ rfl
  exact congrArg (fun v : Int => [AV.pv (.int .i64 v)]) ((a2e (by omega)).trans (by omega)).symm
 try simp at hc5
 obtain ⟨p, hp⟩ : ∃ p, l[i]? = some p := ⟨_, List.getElem?_eq_getElem (by omega)⟩
 have hat := a2t cPa hp
 refine x9x ?_
 refine hK4 _ _ ?_
 clear hK4 K4
 refine x5x fun K6 hK6 => ?_
 refine y6y ?_
 refine x4x x7x (by rfl) ?_
 refine x1x rfl ?_
 refine x1x rfl ?_
 refine z7z rfl rfl a9j rfl a8u rfl (by assumption) ?_
 refine z6z rfl a8u rfl rfl ?_
 refine x1x rfl ?_
 refine y7y rfl rfl rfl (c1o c p (left - (l.length + szs cPa (l.take i))) (by omega)) ?_
 refine x2x rfl ?_
 refine x4x x7x (by rfl) ?_
 refine x1x rfl ?_
 refine y3y rfl rfl rfl ?_
 refine x8x rfl (fun hc7 => ?_) (fun hc7 => ?_)
 ·try simp at hc7
  have hT := b4q hc7
  refine x4x x7x (by rfl) ?_
  refine x2x rfl ?_
  refine y0y ⟨.inr rfl, ?_⟩
  clear hK6 K6 hK3 K3
  refine z0z rfl ?_ rfl
  exact congrArg (fun v : Int => [AV.pv (.int .i64 v)]) (a3l (by omega)).symm
 try simp at hc7
 have h25 : cPa p ≤ left - (l.length + szs cPa (l.take i)) := b3w (by omega)
 rw [a2e h25]
 refine x9x ?_
 refine hK6 _ _ ?_
 clear hK6 K6
 refine y4y x7x (by rfl) ?_
 refine x1x rfl ?_
 refine y3y rfl rfl rfl ?_
 refine x2x rfl ?_
 exact ⟨i + 1, ⟨⟨by omega, by rw [a0l cPa hp]; omega⟩, by omega⟩, [], (Cov.cons' (t := 1) rfl (by rw [a0l cPa hp]; exact congrArg (fun v : Nat => AV.pv (.int .i64 (v : Int))) (by omega)) (Cov.cons' (t := 5) rfl (by rw [v6v (by omega) (by omega)]; rfl) Cov.nil)), (Cov.cons (t := 0) rfl Cov.nil), HE.nil, HE.nil, rfl⟩
theorem c1p (c : Bool) (p : La) (left : Nat) (hl : left ≤ 1048576) : a0o Tryz.prog 181 [.agg (a0m c p), .pv (.int .i64 (left : Int))] (.pv (.int .i64 (lf left (cLa p)))) := by
 refine z4z x7x (fn := Tryz.f181) (by kernel_rfl) (by kernel_rfl) rfl (outs := [.pv (.int .i64 (lf left (cLa p)))]) (by rfl) (Nat.le_of_ble_eq_true rfl) 1 ?_
 have hc : cLa p = c0y p.done := rfl
 refine x4x x7x (by rfl) ?_
 refine v5v (id := 0) rfl rfl rfl ?_
 refine x2x rfl ?_
 refine x4x x7x (by rfl) ?_
 refine x0x rfl b0r rfl rfl a9j rfl rfl ?_
 refine x3x rfl a9j rfl rfl ?_
 refine x1x rfl ?_
 refine y7y rfl rfl rfl (b8l c p.done left hl) ?_
 refine x2x rfl ?_
 refine x5x fun K1 hK1 => ?_
 refine x4x x7x (by rfl) ?_
 refine x1x rfl ?_
 refine y3y rfl rfl rfl ?_
 refine x8x rfl (fun hc2 => ?_) (fun hc2 => ?_)
 ·try simp at hc2
  have hT := b4q hc2
  refine x4x x7x (by rfl) ?_
  refine x2x rfl ?_
  refine y0y ⟨.inr rfl, ?_⟩
  clear hK1 K1
  refine z0z rfl ?_ rfl
  exact congrArg (fun v : Int => [AV.pv (.int .i64 v)]) (a3l (by omega)).symm
 try simp at hc2
 have h10 : c0y p.done ≤ left := b3w (by omega)
 rw [a2e h10]
 refine x9x ?_
 refine hK1 _ _ ?_
 clear hK1 K1
 refine x4x x7x (by rfl) ?_
 refine x1x rfl ?_
 refine x2x rfl ?_
 refine y0y ⟨.inr rfl, ?_⟩
 refine z0z rfl ?_ rfl
 exact congrArg (fun v : Int => [AV.pv (.int .i64 v)]) ((a2e (by omega)).trans (by omega)).symm
theorem b8m (c : Bool) (l : List La) (left : Nat) (hl : left ≤ 1048576) : a0o Tryz.prog 95 [c1h c l, .pv (.int .i64 (left : Int))] (.pv (.int .i64 (lf left (b4o l)))) := by
 refine z4z x7x (fn := Tryz.f95) (by kernel_rfl) (by kernel_rfl) rfl (outs := [.pv (.int .i64 (lf left (b4o l)))]) (by rfl) (Nat.le_of_ble_eq_true rfl) 0 ?_
 refine w9w 0 rfl fun hlen => ?_
 have hc : b4o l = l.length + szs cLa l := rfl
 refine x4x x7x (by rfl) ?_
 refine x2x rfl ?_
 refine x4x x7x (by rfl) ?_
 refine x1x rfl ?_
 refine x1x rfl ?_
 refine u2u rfl b5y rfl ?_
 refine a2m (.int .i64 ((left : Int) - (l.length : Int))) rfl rfl rfl (b0n rfl rfl (by omega) (by omega)) ?_
 refine x2x rfl ?_
 refine x5x fun K1 hK1 => ?_
 refine x4x x7x (by rfl) ?_
 refine x1x rfl ?_
 refine y3y rfl rfl rfl ?_
 refine x8x rfl (fun hc2 => ?_) (fun hc2 => ?_)
 ·try simp at hc2
  refine x4x x7x (by rfl) ?_
  refine x2x rfl ?_
  refine y0y ⟨.inr rfl, ?_⟩
  clear hK1 K1
  refine z0z rfl ?_ rfl
  exact congrArg (fun v : Int => [AV.pv (.int .i64 v)]) (a3l (by omega)).symm
 try simp at hc2
 refine x9x ?_
 refine hK1 _ _ ?_
 clear hK1 K1
 refine x5x fun K3 hK3 => ?_
 refine x4x x7x (by rfl) ?_
 refine x2x rfl ?_
 refine y6y ?_
 refine u4u (ι := Nat) (fun i γ1 => [(1, .pv (.int .i64 ((left - (l.length + szs cLa (l.take i)) : Nat) : Int))), (5, .pv (.int .i64 (i : Int)))]) (fun i γ1 => []) (fun i => i ≤ l.length ∧ l.length + szs cLa (l.take i) ≤ left) (fun i => l.length - i) (Cov.cons (t := 0) rfl Cov.nil) HE.nil 0 ⟨by omega, by rw [List.take_zero]; show l.length + 0 ≤ left; omega⟩ [] (Cov.cons' (t := 1) rfl (by rw [List.take_zero]; exact congrArg (fun v : Int => AV.pv (.int .i64 v)) (by show _ = ((left - (l.length + 0) : Nat) : Int); omega)) (Cov.cons (t := 5) rfl Cov.nil)) HE.nil rfl fun i γ1 hi => ?_
 try dsimp only [List.cons_append, List.nil_append]
 obtain ⟨h1, h2⟩ := hi
 refine x5x fun K4 hK4 => ?_
 refine x4x x7x (by rfl) ?_
 refine x1x rfl ?_
 refine x1x rfl ?_
 refine u2u rfl b5y rfl ?_
 refine y3y rfl rfl rfl ?_
 refine x8x rfl (fun hc5 => ?_) (fun hc5 => ?_)
 rotate_left
 ·try simp at hc5
  obtain rfl : i = l.length := by omega
  rw [List.take_length] at h2 ⊢
  refine v0v ?_
  refine hK3 _ _ ?_
  clear hK4 K4 hK3 K3
  refine x4x x7x (by rfl) ?_
  refine x1x rfl ?_
  refine x2x rfl ?_
  refine y0y ⟨.inr rfl, ?_⟩
  refine z0z rfl ?_ rfl
  exact congrArg (fun v : Int => [AV.pv (.int .i64 v)]) ((a2e (by omega)).trans (by omega)).symm
 try simp at hc5
 obtain ⟨p, hp⟩ : ∃ p, l[i]? = some p := ⟨_, List.getElem?_eq_getElem (by omega)⟩
 have hat := a2t cLa hp
 refine x9x ?_
 refine hK4 _ _ ?_
 clear hK4 K4
 refine x5x fun K6 hK6 => ?_
 refine y6y ?_
 refine x4x x7x (by rfl) ?_
 refine x1x rfl ?_
 refine x1x rfl ?_
 refine z7z rfl rfl b5y rfl b0r rfl (by assumption) ?_
 refine z6z rfl b0r rfl rfl ?_
 refine x1x rfl ?_
 refine y7y rfl rfl rfl (c1p c p (left - (l.length + szs cLa (l.take i))) (by omega)) ?_
 refine x2x rfl ?_
 refine x4x x7x (by rfl) ?_
 refine x1x rfl ?_
 refine y3y rfl rfl rfl ?_
 refine x8x rfl (fun hc7 => ?_) (fun hc7 => ?_)
 ·try simp at hc7
  have hT := b4q hc7
  refine x4x x7x (by rfl) ?_
  refine x2x rfl ?_
  refine y0y ⟨.inr rfl, ?_⟩
  clear hK6 K6 hK3 K3
  refine z0z rfl ?_ rfl
  exact congrArg (fun v : Int => [AV.pv (.int .i64 v)]) (a3l (by omega)).symm
 try simp at hc7
 have h25 : cLa p ≤ left - (l.length + szs cLa (l.take i)) := b3w (by omega)
 rw [a2e h25]
 refine x9x ?_
 refine hK6 _ _ ?_
 clear hK6 K6
 refine y4y x7x (by rfl) ?_
 refine x1x rfl ?_
 refine y3y rfl rfl rfl ?_
 refine x2x rfl ?_
 exact ⟨i + 1, ⟨⟨by omega, by rw [a0l cLa hp]; omega⟩, by omega⟩, [], (Cov.cons' (t := 1) rfl (by rw [a0l cLa hp]; exact congrArg (fun v : Nat => AV.pv (.int .i64 (v : Int))) (by omega)) (Cov.cons' (t := 5) rfl (by rw [v6v (by omega) (by omega)]; rfl) Cov.nil)), (Cov.cons (t := 0) rfl Cov.nil), HE.nil, HE.nil, rfl⟩
theorem c1q (c : Bool) (p : Vi) (left : Nat) (hl : left ≤ 1048576) : a0o Tryz.prog 182 [.agg (a2n c p), .pv (.int .i64 (left : Int))] (.pv (.int .i64 (lf left (cVi p)))) := by
 refine z4z x7x (fn := Tryz.f182) (by kernel_rfl) (by kernel_rfl) rfl (outs := [.pv (.int .i64 (lf left (cVi p)))]) (by rfl) (Nat.le_of_ble_eq_true rfl) 1 ?_
 have hc : cVi p = p.events.length := rfl
 refine x4x x7x (by rfl) ?_
 refine v5v (id := 0) rfl rfl rfl ?_
 refine x2x rfl ?_
 refine x4x x7x (by rfl) ?_
 refine x0x rfl b0s rfl rfl a8f rfl rfl ?_
 refine x3x rfl a8f rfl rfl ?_
 refine x1x rfl ?_
 refine y7y rfl rfl rfl (a5z c p.events left hl) ?_
 refine x2x rfl ?_
 refine x5x fun K1 hK1 => ?_
 refine x4x x7x (by rfl) ?_
 refine x1x rfl ?_
 refine y3y rfl rfl rfl ?_
 refine x8x rfl (fun hc2 => ?_) (fun hc2 => ?_)
 ·try simp at hc2
  have hT := b4q hc2
  refine x4x x7x (by rfl) ?_
  refine x2x rfl ?_
  refine y0y ⟨.inr rfl, ?_⟩
  clear hK1 K1
  refine z0z rfl ?_ rfl
  exact congrArg (fun v : Int => [AV.pv (.int .i64 v)]) (a3l (by omega)).symm
 try simp at hc2
 have h10 : p.events.length ≤ left := b3w (by omega)
 rw [a2e h10]
 refine x9x ?_
 refine hK1 _ _ ?_
 clear hK1 K1
 refine x4x x7x (by rfl) ?_
 refine x1x rfl ?_
 refine x2x rfl ?_
 refine y0y ⟨.inr rfl, ?_⟩
 refine z0z rfl ?_ rfl
 exact congrArg (fun v : Int => [AV.pv (.int .i64 v)]) ((a2e (by omega)).trans (by omega)).symm
theorem b8n (c : Bool) (l : List Vi) (left : Nat) (hl : left ≤ 1048576) : a0o Tryz.prog 97 [c1i c l, .pv (.int .i64 (left : Int))] (.pv (.int .i64 (lf left (b9n l)))) := by
 refine z4z x7x (fn := Tryz.f97) (by kernel_rfl) (by kernel_rfl) rfl (outs := [.pv (.int .i64 (lf left (b9n l)))]) (by rfl) (Nat.le_of_ble_eq_true rfl) 0 ?_
 refine w9w 0 rfl fun hlen => ?_
 have hc : b9n l = l.length + szs cVi l := rfl
 refine x4x x7x (by rfl) ?_
 refine x2x rfl ?_
 refine x4x x7x (by rfl) ?_
 refine x1x rfl ?_
 refine x1x rfl ?_
 refine u2u rfl b5z rfl ?_
 refine a2m (.int .i64 ((left : Int) - (l.length : Int))) rfl rfl rfl (b0n rfl rfl (by omega) (by omega)) ?_
 refine x2x rfl ?_
 refine x5x fun K1 hK1 => ?_
 refine x4x x7x (by rfl) ?_
 refine x1x rfl ?_
 refine y3y rfl rfl rfl ?_
 refine x8x rfl (fun hc2 => ?_) (fun hc2 => ?_)
 ·try simp at hc2
  refine x4x x7x (by rfl) ?_
  refine x2x rfl ?_
  refine y0y ⟨.inr rfl, ?_⟩
  clear hK1 K1
  refine z0z rfl ?_ rfl
  exact congrArg (fun v : Int => [AV.pv (.int .i64 v)]) (a3l (by omega)).symm
 try simp at hc2
 refine x9x ?_
 refine hK1 _ _ ?_
 clear hK1 K1
 refine x5x fun K3 hK3 => ?_
 refine x4x x7x (by rfl) ?_
 refine x2x rfl ?_
 refine y6y ?_
 refine u4u (ι := Nat) (fun i γ1 => [(1, .pv (.int .i64 ((left - (l.length + szs cVi (l.take i)) : Nat) : Int))), (5, .pv (.int .i64 (i : Int)))]) (fun i γ1 => []) (fun i => i ≤ l.length ∧ l.length + szs cVi (l.take i) ≤ left) (fun i => l.length - i) (Cov.cons (t := 0) rfl Cov.nil) HE.nil 0 ⟨by omega, by rw [List.take_zero]; show l.length + 0 ≤ left; omega⟩ [] (Cov.cons' (t := 1) rfl (by rw [List.take_zero]; exact congrArg (fun v : Int => AV.pv (.int .i64 v)) (by show _ = ((left - (l.length + 0) : Nat) : Int); omega)) (Cov.cons (t := 5) rfl Cov.nil)) HE.nil rfl fun i γ1 hi => ?_
 try dsimp only [List.cons_append, List.nil_append]
 obtain ⟨h1, h2⟩ := hi
 refine x5x fun K4 hK4 => ?_
 refine x4x x7x (by rfl) ?_
 refine x1x rfl ?_
 refine x1x rfl ?_
 refine u2u rfl b5z rfl ?_
 refine y3y rfl rfl rfl ?_
 refine x8x rfl (fun hc5 => ?_) (fun hc5 => ?_)
 rotate_left
 ·try simp at hc5
  obtain rfl : i = l.length := by omega
  rw [List.take_length] at h2 ⊢
  refine v0v ?_
  refine hK3 _ _ ?_
  clear hK4 K4 hK3 K3
  refine x4x x7x (by rfl) ?_
  refine x1x rfl ?_
  refine x2x rfl ?_
  refine y0y ⟨.inr rfl, ?_⟩
  refine z0z rfl ?_ rfl
  exact congrArg (fun v : Int => [AV.pv (.int .i64 v)]) ((a2e (by omega)).trans (by omega)).symm
 try simp at hc5
 obtain ⟨p, hp⟩ : ∃ p, l[i]? = some p := ⟨_, List.getElem?_eq_getElem (by omega)⟩
 have hat := a2t cVi hp
 refine x9x ?_
 refine hK4 _ _ ?_
 clear hK4 K4
 refine x5x fun K6 hK6 => ?_
 refine y6y ?_
 refine x4x x7x (by rfl) ?_
 refine x1x rfl ?_
 refine x1x rfl ?_
 refine z7z rfl rfl b5z rfl b0s rfl (by assumption) ?_
 refine z6z rfl b0s rfl rfl ?_
 refine x1x rfl ?_
 refine y7y rfl rfl rfl (c1q c p (left - (l.length + szs cVi (l.take i))) (by omega)) ?_
 refine x2x rfl ?_
 refine x4x x7x (by rfl) ?_
 refine x1x rfl ?_
 refine y3y rfl rfl rfl ?_
 refine x8x rfl (fun hc7 => ?_) (fun hc7 => ?_)
 ·try simp at hc7
  have hT := b4q hc7
  refine x4x x7x (by rfl) ?_
  refine x2x rfl ?_
  refine y0y ⟨.inr rfl, ?_⟩
  clear hK6 K6 hK3 K3
  refine z0z rfl ?_ rfl
  exact congrArg (fun v : Int => [AV.pv (.int .i64 v)]) (a3l (by omega)).symm
 try simp at hc7
 have h25 : cVi p ≤ left - (l.length + szs cVi (l.take i)) := b3w (by omega)
 rw [a2e h25]
 refine x9x ?_
 refine hK6 _ _ ?_
 clear hK6 K6
 refine y4y x7x (by rfl) ?_
 refine x1x rfl ?_
 refine y3y rfl rfl rfl ?_
 refine x2x rfl ?_
 exact ⟨i + 1, ⟨⟨by omega, by rw [a0l cVi hp]; omega⟩, by omega⟩, [], (Cov.cons' (t := 1) rfl (by rw [a0l cVi hp]; exact congrArg (fun v : Nat => AV.pv (.int .i64 (v : Int))) (by omega)) (Cov.cons' (t := 5) rfl (by rw [v6v (by omega) (by omega)]; rfl) Cov.nil)), (Cov.cons (t := 0) rfl Cov.nil), HE.nil, HE.nil, rfl⟩
theorem c1r (c : Bool) (p : Nd) (left : Nat) (hl : left ≤ 1048576) : a0o Tryz.prog 23 [.agg (a1d c p), .pv (.int .i64 (left : Int))] (.pv (.int .i64 (lf left (cNd p)))) := by
 refine z4z x7x (fn := Tryz.f23) (by kernel_rfl) (by kernel_rfl) rfl (outs := [.pv (.int .i64 (lf left (cNd p)))]) (by rfl) (Nat.le_of_ble_eq_true rfl) 1 ?_
 have hc : cNd p = b4o p.lanes + p.kept.length + p.outs.length + b9n p.views + p.known.length := rfl
 refine x4x x7x (by rfl) ?_
 refine v5v (id := 0) rfl rfl rfl ?_
 refine x2x rfl ?_
 refine x4x x7x (by rfl) ?_
 refine x0x rfl a4m rfl rfl b5y rfl rfl ?_
 refine x3x rfl b5y rfl rfl ?_
 refine x1x rfl ?_
 refine y7y rfl rfl rfl (b8m c p.lanes left hl) ?_
 refine x2x rfl ?_
 refine x5x fun K1 hK1 => ?_
 refine x4x x7x (by rfl) ?_
 refine x1x rfl ?_
 refine y3y rfl rfl rfl ?_
 refine x8x rfl (fun hc2 => ?_) (fun hc2 => ?_)
 ·try simp at hc2
  have hT := b4q hc2
  refine x4x x7x (by rfl) ?_
  refine x2x rfl ?_
  refine y0y ⟨.inr rfl, ?_⟩
  clear hK1 K1
  refine z0z rfl ?_ rfl
  exact congrArg (fun v : Int => [AV.pv (.int .i64 v)]) (a3l (by omega)).symm
 try simp at hc2
 have h10 : b4o p.lanes ≤ left := b3w (by omega)
 rw [a2e h10]
 refine x9x ?_
 refine hK1 _ _ ?_
 clear hK1 K1
 refine x4x x7x (by rfl) ?_
 refine x0x rfl a4m rfl rfl a8f rfl rfl ?_
 refine x3x rfl a8f rfl rfl ?_
 refine x1x rfl ?_
 refine y7y rfl rfl rfl (a5z c p.kept (left - b4o p.lanes) (by omega)) ?_
 refine x2x rfl ?_
 refine x5x fun K3 hK3 => ?_
 refine x4x x7x (by rfl) ?_
 refine x1x rfl ?_
 refine y3y rfl rfl rfl ?_
 refine x8x rfl (fun hc4 => ?_) (fun hc4 => ?_)
 ·try simp at hc4
  have hT := b4q hc4
  refine x4x x7x (by rfl) ?_
  refine x2x rfl ?_
  refine y0y ⟨.inr rfl, ?_⟩
  clear hK3 K3
  refine z0z rfl ?_ rfl
  exact congrArg (fun v : Int => [AV.pv (.int .i64 v)]) (a3l (by omega)).symm
 try simp at hc4
 have h16 : p.kept.length ≤ (left - b4o p.lanes) := b3w (by omega)
 rw [a2e h16]
 refine x9x ?_
 refine hK3 _ _ ?_
 clear hK3 K3
 refine x4x x7x (by rfl) ?_
 refine x0x rfl a4m rfl rfl b2g rfl rfl ?_
 refine x3x rfl b2g rfl rfl ?_
 refine x1x rfl ?_
 refine y7y rfl rfl rfl (b3c c p.outs (left - b4o p.lanes - p.kept.length) (by omega)) ?_
 refine x2x rfl ?_
 refine x5x fun K5 hK5 => ?_
 refine x4x x7x (by rfl) ?_
 refine x1x rfl ?_
 refine y3y rfl rfl rfl ?_
 refine x8x rfl (fun hc6 => ?_) (fun hc6 => ?_)
 ·try simp at hc6
  have hT := b4q hc6
  refine x4x x7x (by rfl) ?_
  refine x2x rfl ?_
  refine y0y ⟨.inr rfl, ?_⟩
  clear hK5 K5
  refine z0z rfl ?_ rfl
  exact congrArg (fun v : Int => [AV.pv (.int .i64 v)]) (a3l (by omega)).symm
 try simp at hc6
 have h22 : p.outs.length ≤ ((left - b4o p.lanes) - p.kept.length) := b3w (by omega)
 rw [a2e h22]
 refine x9x ?_
 refine hK5 _ _ ?_
 clear hK5 K5
 refine x4x x7x (by rfl) ?_
 refine x0x rfl a4m rfl rfl b5z rfl rfl ?_
 refine x3x rfl b5z rfl rfl ?_
 refine x1x rfl ?_
 refine y7y rfl rfl rfl (b8n c p.views (left - b4o p.lanes - p.kept.length - p.outs.length) (by omega)) ?_
 refine x2x rfl ?_
 refine x5x fun K7 hK7 => ?_
 refine x4x x7x (by rfl) ?_
 refine x1x rfl ?_
 refine y3y rfl rfl rfl ?_
 refine x8x rfl (fun hc8 => ?_) (fun hc8 => ?_)
 ·try simp at hc8
  have hT := b4q hc8
  refine x4x x7x (by rfl) ?_
  refine x2x rfl ?_
  refine y0y ⟨.inr rfl, ?_⟩
  clear hK7 K7
  refine z0z rfl ?_ rfl
  exact congrArg (fun v : Int => [AV.pv (.int .i64 v)]) (a3l (by omega)).symm
 try simp at hc8
 have h28 : b9n p.views ≤ (((left - b4o p.lanes) - p.kept.length) - p.outs.length) := b3w (by omega)
 rw [a2e h28]
 refine x9x ?_
 refine hK7 _ _ ?_
 clear hK7 K7
 refine x4x x7x (by rfl) ?_
 refine x0x rfl a4m rfl rfl p3p rfl rfl ?_
 refine x3x rfl p3p rfl rfl ?_
 refine x1x rfl ?_
 refine y7y rfl rfl rfl (c1n c p.known (left - b4o p.lanes - p.kept.length - p.outs.length - b9n p.views) (by omega)) ?_
 refine x2x rfl ?_
 refine x5x fun K9 hK9 => ?_
 refine x4x x7x (by rfl) ?_
 refine x1x rfl ?_
 refine y3y rfl rfl rfl ?_
 refine x8x rfl (fun hc10 => ?_) (fun hc10 => ?_)
 ·try simp at hc10
  have hT := b4q hc10
  refine x4x x7x (by rfl) ?_
  refine x2x rfl ?_
  refine y0y ⟨.inr rfl, ?_⟩
  clear hK9 K9
  refine z0z rfl ?_ rfl
  exact congrArg (fun v : Int => [AV.pv (.int .i64 v)]) (a3l (by omega)).symm
 try simp at hc10
 have h34 : p.known.length ≤ ((((left - b4o p.lanes) - p.kept.length) - p.outs.length) - b9n p.views) := b3w (by omega)
 rw [a2e h34]
 refine x9x ?_
 refine hK9 _ _ ?_
 clear hK9 K9
 refine x4x x7x (by rfl) ?_
 refine x1x rfl ?_
 refine x2x rfl ?_
 refine y0y ⟨.inr rfl, ?_⟩
 refine z0z rfl ?_ rfl
 exact congrArg (fun v : Int => [AV.pv (.int .i64 v)]) ((a2e (by omega)).trans (by omega)).symm
end
end Go.Proofs.YtpadkogpeobboaaGreat.Am
