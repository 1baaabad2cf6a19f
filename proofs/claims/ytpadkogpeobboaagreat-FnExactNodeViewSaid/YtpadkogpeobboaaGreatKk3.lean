/- Part 3 of the texts that the proof of LawFnExactNodeView leans on, merged by program. -/
import Derived.Test.YtpadkogpeobboaaGreatKk2
set_option linter.unusedVariables false
set_option linter.unusedSimpArgs false
namespace Go.Proofs.YtpadkogpeobboaaGreat.Am
open Go Go.RowKit
section
variable {P : Program} {n : Nat} {fr : Fr} {h : Hp} {Q : Exit → Fr → Hp → Prop}
theorem x6x {tt : TT} (htt : a2m P tt) {id : Nat} {ops : Array Oper} {c : Code} (hd : (ops.toList.all fun o => match o.dst with | some d => decide (d < n) | none => true) = true) (hr : q4q P tt ops ops.toList fr h [] fun fr' h' _ => Ex P n c fr' h' Q) : Ex P n (.seq (.region id ops false) c) fr h Q :=
 c6e (fun fr h => Ex P n c fr h Q) (y2y htt hd hr) (fun _ _ h => h)
theorem q5q {tt : TT} (htt : a2m P tt) (hm : P.follows .mixedOrders = true) {id : Nat} {ops : Array Oper} {c : Code} (hd : (ops.toList.all fun o => match o.dst with | some d => decide (d < n) | none => true) = true) (hr : q4q P tt ops ops.toList fr h [] fun fr' h' lg => chk ops lg.reverse = true ∧ Ex P n c fr' h' Q) : Ex P n (.seq (.region id ops true) c) fr h Q :=
 c6e (fun fr h => Ex P n c fr h Q) (r8r htt hm hd hr) (fun _ _ h => h)
end
section
variable {P : Program}

inductive NilLs : List (List AV) → List (List AV) → Prop
 | refl (l : List (List AV)) : NilLs l l
 | cons {x x' : List AV} {r r' : List (List AV)} (h : NilL x x') (t : NilLs r r') : NilLs (x :: r) (x' :: r')
theorem NilL.refl : ∀ l : List AV, NilL l l
 | [] => .nil
 | _ :: l => .same (NilL.refl l)
theorem NilL.app {a a' b b' : List AV} (h : NilL a a') (k : NilL b b') : NilL (a ++ b) (a' ++ b') := by
 induction h with
 | nil => exact k
 | same _ ih => exact .same ih
 | own _ ih => exact .own ih
theorem NilLs.flat {a b : List (List AV)} (h : NilLs a b) : NilL a.flatten b.flatten := by
 induction h with
 | refl l => exact NilL.refl _
 | cons h _ ih => simpa using h.app ih
theorem NilLs.len {a b : List (List AV)} (h : NilLs a b) : a.length = b.length := by
 induction h with
 | refl l => rfl
 | cons _ _ ih => simp [ih]
variable {n : Nat} {fr : Fr} {h : Hp} {Q : Exit → Fr → Hp → Prop}

inductive LeLs : List (List AV) → List (List AV) → Prop
 | refl (l : List (List AV)) : LeLs l l
 | cons {x x' : List AV} {r r' : List (List AV)} (h : LeCs x x') (t : LeLs r r') : LeLs (x :: r) (x' :: r')
theorem LeLs.flat {a b : List (List AV)} (h : LeLs a b) : LeCs a.flatten b.flatten := by
 induction h with
 | refl l => exact LeCs.refl _
 | cons h _ ih => simpa using h.app ih
theorem LeLs.len {a b : List (List AV)} (h : LeLs a b) : a.length = b.length := by
 induction h with
 | refl l => rfl
 | cons _ _ ih => simp [ih]
variable {tt : TT} {ops : Array Oper} {r : List Oper} {lg : Log} {K : Fr → Hp → Log → Prop} {d : Nat} {ty : TypeId} {pos : String} {af : Array Edge}
theorem Sub.two {i j : Nat} {a a' b b' : Nat × Ent} : Sub [(i, a), (j, b)] [(i, a'), (j, b')] := fun p hp => by
 simp only [List.mem_cons, List.not_mem_nil, or_false] at hp
 rcases hp with rfl | rfl
 ·exact ⟨a', List.mem_cons_self ..⟩
 ·exact ⟨b', List.mem_cons_of_mem _ (List.mem_cons_self ..)⟩
end
section
theorem z8z : (∀ ρ c i g e, a6g ρ c (i, (g, e)) = (ρ i, (c i, inE ρ c e))) ∧
 (∀ ρ c, inB ρ c (.any) = .any) ∧
 (∀ ρ c, inD ρ c (.any) = .any) ∧
 (∀ ρ c, inC ρ c (.any) = .any) ∧
 (∀ ρ c, inA ρ c (.any) = .any) ∧
 (∀ ρ c, inT ρ c (.any) = .any) ∧
 (∀ ρ c v, inB ρ c (.pv v) = .pv v) ∧
 (∀ ρ c v, inD ρ c (.pv v) = .pv v) ∧
 (∀ ρ c v, inC ρ c (.pv v) = .pv v) ∧
 (∀ ρ c v, inA ρ c (.pv v) = .pv v) ∧
 (∀ ρ c v, inT ρ c (.pv v) = .pv v) ∧
 (∀ ρ c m ty sz xs, inB ρ c (.row m ty sz xs) = .row m ty sz xs) ∧
 (∀ ρ c m ty sz xs, inD ρ c (.row m ty sz xs) = .row m ty sz xs) ∧
 (∀ ρ c m ty sz xs, inC ρ c (.row m ty sz xs) = .row m ty sz xs) ∧
 (∀ ρ c m ty sz xs, inA ρ c (.row m ty sz xs) = .row m ty sz xs) ∧
 (∀ ρ c m ty sz xs, inT ρ c (.row m ty sz xs) = .row m ty sz xs) ∧
 (∀ ρ c i g, inB ρ c (.ref i g) = .ref (ρ i) (c i)) ∧
 (∀ ρ c i g, inD ρ c (.ref i g) = .ref (ρ i) (c i)) ∧
 (∀ ρ c i g, inC ρ c (.ref i g) = .ref (ρ i) (c i)) ∧
 (∀ ρ c i g, inA ρ c (.ref i g) = .ref (ρ i) (c i)) ∧
 (∀ ρ c i g, inT ρ c (.ref i g) = .ref (ρ i) (c i)) ∧
 (∀ ρ c i g a b, inB ρ c (.bsl i g a b) = .bsl (ρ i) (c i) a b) ∧
 (∀ ρ c i g a b, inD ρ c (.bsl i g a b) = .bsl (ρ i) (c i) a b) ∧
 (∀ ρ c i g a b, inC ρ c (.bsl i g a b) = .bsl (ρ i) (c i) a b) ∧
 (∀ ρ c i g a b, inA ρ c (.bsl i g a b) = .bsl (ρ i) (c i) a b) ∧
 (∀ ρ c i g a b, inT ρ c (.bsl i g a b) = .bsl (ρ i) (c i) a b) ∧
 (∀ ρ c i g a b, inB ρ c (.cut i g a b) = .cut (ρ i) (c i) a b) ∧
 (∀ ρ c i g a b, inD ρ c (.cut i g a b) = .cut (ρ i) (c i) a b) ∧
 (∀ ρ c i g a b, inC ρ c (.cut i g a b) = .cut (ρ i) (c i) a b) ∧
 (∀ ρ c i g a b, inA ρ c (.cut i g a b) = .cut (ρ i) (c i) a b) ∧
 (∀ ρ c i g a b, inT ρ c (.cut i g a b) = .cut (ρ i) (c i) a b) ∧
 (∀ ρ c i g a, inB ρ c (.ptr i g a) = .ptr (ρ i) (c i) a) ∧
 (∀ ρ c i g a, inD ρ c (.ptr i g a) = .ptr (ρ i) (c i) a) ∧
 (∀ ρ c i g a, inC ρ c (.ptr i g a) = .ptr (ρ i) (c i) a) ∧
 (∀ ρ c i g a, inA ρ c (.ptr i g a) = .ptr (ρ i) (c i) a) ∧
 (∀ ρ c i g a, inT ρ c (.ptr i g a) = .ptr (ρ i) (c i) a) ∧
 (∀ ρ c i g a b, inB ρ c (.elt i g a b) = .elt (ρ i) (c i) a b) ∧
 (∀ ρ c i g a b, inD ρ c (.elt i g a b) = .elt (ρ i) (c i) a b) ∧
 (∀ ρ c i g a b, inC ρ c (.elt i g a b) = .elt (ρ i) (c i) a b) ∧
 (∀ ρ c i g a b, inA ρ c (.elt i g a b) = .elt (ρ i) (c i) a b) ∧
 (∀ ρ c i g a b, inT ρ c (.elt i g a b) = .elt (ρ i) (c i) a b) ∧
 (∀ ρ c cs, inB ρ c (.iel cs) = .iel cs) ∧
 (∀ ρ c cs, inD ρ c (.iel cs) = .iel cs) ∧
 (∀ ρ c cs, inC ρ c (.iel cs) = .iel cs) ∧
 (∀ ρ c cs, inA ρ c (.iel cs) = .iel cs) ∧
 (∀ ρ c cs, inT ρ c (.iel cs) = .iel cs) ∧
 (∀ ρ c cs, inB ρ c (.agg cs) = .agg cs) ∧
 (∀ ρ c cs, inD ρ c (.agg cs) = .agg (cs.map (inB ρ c))) ∧
 (∀ ρ c cs, inC ρ c (.agg cs) = .agg cs) ∧
 (∀ ρ c cs, inA ρ c (.agg cs) = .agg (cs.map (inC ρ c))) ∧
 (∀ ρ c cs, inT ρ c (.agg cs) = .agg (cs.map (inC ρ c))) ∧
 (∀ ρ c cs, inB ρ c (.tup cs) = .tup cs) ∧
 (∀ ρ c cs, inD ρ c (.tup cs) = .tup cs) ∧
 (∀ ρ c cs, inC ρ c (.tup cs) = .tup cs) ∧
 (∀ ρ c cs, inA ρ c (.tup cs) = .tup cs) ∧
 (∀ ρ c cs, inT ρ c (.tup cs) = .tup (cs.map (inA ρ c))) ∧
 (∀ ρ c f a b, inB ρ c (.fn f a b) = .fn f a b) ∧
 (∀ ρ c f a b, inD ρ c (.fn f a b) = .fn f a b) ∧
 (∀ ρ c f a b, inC ρ c (.fn f a b) = .fn f (a.map (inB ρ c)) (b.map (inB ρ c))) ∧
 (∀ ρ c f a b, inA ρ c (.fn f a b) = .fn f (a.map (inB ρ c)) (b.map (inB ρ c))) ∧
 (∀ ρ c f a b, inT ρ c (.fn f a b) = .fn f (a.map (inB ρ c)) (b.map (inB ρ c))) ∧
 (∀ ρ c t a, inB ρ c (.ifc t a) = .ifc t a) ∧
 (∀ ρ c t a, inD ρ c (.ifc t a) = .ifc t a) ∧
 (∀ ρ c t a, inC ρ c (.ifc t a) = .ifc t (inD ρ c a)) ∧
 (∀ ρ c t a, inA ρ c (.ifc t a) = .ifc t (inD ρ c a)) ∧
 (∀ ρ c t a, inT ρ c (.ifc t a) = .ifc t (inD ρ c a)) ∧
 (∀ ρ c i g, inB ρ c (.mp i g) = .mp (ρ i) (c i)) ∧
 (∀ ρ c i g, inD ρ c (.mp i g) = .mp (ρ i) (c i)) ∧
 (∀ ρ c i g, inC ρ c (.mp i g) = .mp (ρ i) (c i)) ∧
 (∀ ρ c i g, inA ρ c (.mp i g) = .mp (ρ i) (c i)) ∧
 (∀ ρ c i g, inT ρ c (.mp i g) = .mp (ρ i) (c i)) ∧
 (∀ ρ c, inE ρ c (.dead) = .dead) ∧
 (∀ ρ c ty cs, inE ρ c (.box ty cs) = .box ty (cs.map (inC ρ c))) ∧
 (∀ ρ c ty sz xs, inE ρ c (.row ty sz xs) = .row ty sz xs) ∧
 (∀ ρ c es, inE ρ c (.map es) = .map es) ∧
 (∀ ρ c ty lty xs, inE ρ c (.chn ty lty xs) = .chn ty lty xs) ∧
 (∀ ρ c l, inE ρ c (.blk l) = .blk l) := by
 refine ⟨?_, ?_, ?_, ?_, ?_, ?_, ?_, ?_, ?_, ?_, ?_, ?_, ?_, ?_, ?_, ?_, ?_, ?_, ?_, ?_, ?_, ?_, ?_, ?_, ?_, ?_, ?_, ?_, ?_, ?_, ?_, ?_, ?_, ?_, ?_, ?_, ?_, ?_, ?_, ?_, ?_, ?_, ?_, ?_, ?_, ?_, ?_, ?_, ?_, ?_, ?_, ?_, ?_, ?_, ?_, ?_, ?_, ?_, ?_, ?_, ?_, ?_, ?_, ?_, ?_, ?_, ?_, ?_, ?_, ?_, ?_, ?_, ?_, ?_, ?_, ?_, ?_⟩ <;> intros <;> rfl
theorem p8p : (∀ (α β : Type) (f : α → β), List.map f [] = []) ∧ (∀ (α β : Type) (f : α → β) (a : α) (l : List α), List.map f (a :: l) = f a :: List.map f l) ∧ (∀ x y : Nat, Nat.add x y = x + y) ∧
 (∀ (α : Type) (x d : α) (l : List α), (x :: l).getD 0 d = x) ∧ (∀ (α : Type) (x d : α) (l : List α) (n : Nat), (x :: l).getD (n + 1) d = l.getD n d) ∧ (∀ (α : Type) (d : α) (n : Nat), ([] : List α).getD n d = d) ∧
 (∀ b : Bool, (b || false) = b) ∧ (∀ b : Bool, (false || b) = b) ∧ (∀ b : Bool, (true || b) = true) ∧ (∀ b : Bool, (b || true) = true) ∧ (∀ n : Nat, n + 0 = n) ∧ (∀ n : Nat, 0 + n = n) :=
 ⟨fun _ _ _ => rfl, fun _ _ _ _ _ => rfl, fun _ _ => rfl, fun _ _ _ _ => rfl, fun _ _ _ _ _ => rfl, fun _ _ _ => rfl, Bool.or_false, Bool.false_or, Bool.true_or, Bool.or_true, Nat.add_zero, Nat.zero_add⟩
theorem a0p : (∀ (α : Type) (x y : α) (l : List α), (x :: l).set 0 y = y :: l) ∧ (∀ (α : Type) (x y : α) (l : List α) (n : Nat), (x :: l).set (n + 1) y = x :: l.set n y) := ⟨fun _ _ _ _ => rfl, fun _ _ _ _ _ => rfl⟩
theorem x5x {h : Hp} (id : Nat) {ge : Nat × Ent} {r : Hp} (he : v1v h id = some ge) (t : HE h r) : HE h ((id, ge) :: r) := .same he t
theorem x4x (t : Nat) {av : AV} {f F : Fr} (h : F.get t = some av) (k : Cov f F) : Cov ((t, av) :: f) F := .cons h k
theorem v7v {a b : Nat} (h : Nat.ble a b = true) : a ≤ b := Nat.le_of_ble_eq_true h
theorem w5w {α : Type} {l : List α} {i : Nat} (h : i < l.length) : ∃ a, l[i]? = some a := ⟨_, List.getElem?_eq_getElem h⟩
end
section
def c1b : List Int → List Int → Bool
 | a :: az, b :: bs => if a < b then true else if b < a then false else c1b az bs
 | _, _ => false
theorem a8d (a b : Int) (az bs : List Int) : c1b (a :: az) (b :: bs) = if a < b then true else if b < a then false else c1b az bs := rfl
theorem c6q : ∀ az, c1b az az = false
 | [] => rfl
 | a :: az => by rw [a8d, if_neg (by omega), if_neg (by omega)]; exact c6q az
theorem c0b : ∀ az bs cs, c1b az bs = true → c1b bs cs = true → c1b az cs = true
 | [], _, _, h, _ => by simp [c1b] at h
 | _ :: _, [], _, h, _ => by simp [c1b] at h
 | _ :: _, _ :: _, [], _, h => by simp [c1b] at h
 | a :: az, b :: bs, c :: cs, h, k => by
  rw [a8d] at *
  by_cases h1 : a < b <;> by_cases h2 : b < a <;> by_cases h3 : b < c <;> by_cases h4 : c < b <;> simp only [h1, h2, h3, h4, if_true, if_false] at h k <;> first | omega | (cases h; done) | (cases k; done) | (rw [if_pos (by omega)]; done) | (rw [if_neg (by omega), if_neg (by omega)]; exact c0b _ _ _ h k)
theorem c6r : ∀ az bs : List Int, az.length = bs.length → az ≠ bs → c1b az bs = true ∨ c1b bs az = true
 | [], [], _, h => absurd rfl h
 | [], _ :: _, h, _ => by simp at h
 | _ :: _, [], h, _ => by simp at h
 | a :: az, b :: bs, hl, hne => by
  rw [a8d, a8d]
  by_cases h1 : a < b
  ·exact .inl (if_pos h1)
  ·by_cases h2 : b < a
   ·exact .inr (if_pos h2)
   ·have e : a = b := by omega
    subst e
    rw [if_neg h1, if_neg h1, if_neg h1, if_neg h1]
    exact c6r az bs (by simpa using hl) (fun e => hne (by rw [e]))
structure STO {α : Type} (lt : α → α → Bool) : Prop where
 irr : ∀ a, lt a a = false
 trans : ∀ a b c, lt a b = true → lt b c = true → lt a c = true
 tot : ∀ a b, a ≠ b → lt a b = true ∨ lt b a = true
theorem STO.asymm {α : Type} {lt : α → α → Bool} (O : STO lt) {a b : α} (h : lt a b = true) : lt b a = false := by
 cases hb : lt b a
 ·rfl
 ·have := O.trans _ _ _ h hb; rw [O.irr] at this; cases this
theorem STO.eq {α : Type} {lt : α → α → Bool} (O : STO lt) {a b : α} (h : lt a b = false) (k : lt b a = false) : a = b := by
 apply Classical.byContradiction
 intro hne
 rcases O.tot a b hne with h1 | h1
 ·rw [h] at h1; cases h1
 ·rw [k] at h1; cases h1
theorem STO.ntrans {α : Type} {lt : α → α → Bool} (O : STO lt) {a b c : α} (h : lt b a = false) (k : lt c b = false) : lt c a = false := by
 cases hc : lt c a
 ·rfl
 ·by_cases e : a = b
  ·subst e; rw [hc] at k; cases k
  ·rcases O.tot a b e with h1 | h1
   ·rw [O.trans _ _ _ hc h1] at k; cases k
   ·rw [h] at h1; cases h1
theorem STO.lt_of {α : Type} {lt : α → α → Bool} (O : STO lt) {a b : α} (h : lt b a = false) (hne : a ≠ b) : lt a b = true := by
 rcases O.tot a b hne with h1 | h1
 ·exact h1
 ·rw [h] at h1; cases h1
section
variable {α : Type} {lt : α → α → Bool}

def SS (lt : α → α → Bool) (l : List α) : Prop := l.Pairwise (fun a b => lt a b = true)

def WS (lt : α → α → Bool) (l : List α) : Prop := l.Pairwise (fun a b => lt b a = false)
theorem SS.uniq (O : STO lt) : ∀ {l l' : List α}, SS lt l → SS lt l' → (∀ x, x ∈ l ↔ x ∈ l') → l = l'
 | [], [], _, _, _ => rfl
 | [], b :: bs, _, _, h => absurd ((h b).2 (by simp)) (by simp)
 | a :: az, [], _, _, h => absurd ((h a).1 (by simp)) (by simp)
 | a :: az, b :: bs, h1, h2, h => by
  obtain ⟨h3, h4⟩ := List.pairwise_cons.1 h1
  obtain ⟨h5, h6⟩ := List.pairwise_cons.1 h2
  have e : a = b := by
   have hab := (h a).1 (by simp)
   have hba := (h b).2 (by simp)
   rcases List.mem_cons.1 hab with e | hm
   ·exact e
   ·rcases List.mem_cons.1 hba with e | hm'
    ·exact e.symm
    ·have := O.trans _ _ _ (h3 b hm') (h5 a hm); rw [O.irr] at this; cases this
  subst e
  rw [SS.uniq O h4 h6 (fun x => ?_)]
  have hx := h x
  simp only [List.mem_cons] at hx
  constructor
  ·intro hm
   rcases hx.1 (.inr hm) with e | e
   ·subst e; have := h3 x hm; rw [O.irr] at this; cases this
   ·exact e
  ·intro hm
   rcases hx.2 (.inr hm) with e | e
   ·subst e; have := h5 x hm; rw [O.irr] at this; cases this
   ·exact e
theorem WS.uniq (O : STO lt) : ∀ {l l' : List α}, WS lt l → WS lt l' → l.Perm l' → l = l'
 | [], l', _, _, h => (List.nil_perm.1 h).symm ▸ rfl
 | a :: az, [], _, _, h => absurd h.symm (by simp)
 | a :: az, b :: bs, h1, h2, h => by
  obtain ⟨h3, h4⟩ := List.pairwise_cons.1 h1
  obtain ⟨h5, h6⟩ := List.pairwise_cons.1 h2
  have e : a = b := by
   have hab : a ∈ b :: bs := h.mem_iff.1 (by simp)
   have hba : b ∈ a :: az := h.mem_iff.2 (by simp)
   rcases List.mem_cons.1 hab with e | hm
   ·exact e
   ·rcases List.mem_cons.1 hba with e | hm'
    ·exact e.symm
    ·exact O.eq (h5 a hm) (h3 b hm')
  subst e
  rw [WS.uniq O h4 h6 ((List.perm_cons a).1 h)]
theorem SS.ws (O : STO lt) {l : List α} (h : SS lt l) : WS lt l := List.Pairwise.imp (fun h => O.asymm h) h

def c3n [DecidableEq α] (lt : α → α → Bool) (x : α) : List α → List α
 | [] => [x]
 | y :: r => if x = y then y :: r else if lt x y then x :: y :: r else y :: c3n lt x r
def d6f [DecidableEq α] (lt : α → α → Bool) (l : List α) : List α := l.foldl (fun acc x => c3n lt x acc) []
theorem b6h [DecidableEq α] (x z : α) : ∀ l : List α, z ∈ c3n lt x l ↔ z = x ∨ z ∈ l
 | [] => by simp [c3n]
 | y :: r => by
  unfold c3n
  by_cases e : x = y
  ·subst e; rw [if_pos rfl]; simp only [List.mem_cons]; constructor
   ·exact .inr
   ·rintro (h | h | h)
    ·exact .inl h
    ·exact .inl h
    ·exact .inr h
  ·rw [if_neg e]
   by_cases h : lt x y = true
   ·rw [if_pos h]; simp
   ·rw [if_neg h]; simp only [List.mem_cons, b6h x z r]; constructor
    ·rintro (h | h | h)
     ·exact .inr (.inl h)
     ·exact .inl h
     ·exact .inr (.inr h)
    ·rintro (h | h | h)
     ·exact .inr (.inl h)
     ·exact .inl h
     ·exact .inr (.inr h)
theorem c5i [DecidableEq α] (O : STO lt) (x : α) : ∀ l : List α, SS lt l → SS lt (c3n lt x l)
 | [], _ => by simp [c3n, SS]
 | y :: r, h => by
  unfold c3n
  obtain ⟨h1, h2⟩ := List.pairwise_cons.1 h
  by_cases e : x = y
  ·rw [if_pos e]; exact h
  ·rw [if_neg e]
   by_cases hx : lt x y = true
   ·rw [if_pos hx]
    refine List.pairwise_cons.2 ⟨fun z hz => ?_, h⟩
    rcases List.mem_cons.1 hz with rfl | hz
    ·exact hx
    ·exact O.trans _ _ _ hx (h1 z hz)
   ·rw [if_neg hx]
    refine List.pairwise_cons.2 ⟨fun z hz => ?_, c5i O x r h2⟩
    rcases (b6h x z r).1 hz with rfl | hz
    ·exact O.lt_of (by simpa using hx) (Ne.symm e)
    ·exact h1 z hz
theorem b3i [DecidableEq α] (O : STO lt) : ∀ (l acc : List α), SS lt acc → SS lt (l.foldl (fun acc x => c3n lt x acc) acc)
 | [], _, h => h
 | x :: l, acc, h => b3i O l _ (c5i O x acc h)
theorem b1c [DecidableEq α] (z : α) : ∀ (l acc : List α), z ∈ l.foldl (fun acc x => c3n lt x acc) acc ↔ z ∈ acc ∨ z ∈ l
 | [], acc => by simp
 | x :: l, acc => by
  rw [List.foldl_cons, b1c z l, b6h]
  simp only [List.mem_cons]
  constructor
  ·rintro ((h | h) | h)
   ·exact .inr (.inl h)
   ·exact .inl h
   ·exact .inr (.inr h)
  ·rintro (h | h | h)
   ·exact .inl (.inr h)
   ·exact .inl (.inl h)
   ·exact .inr h
theorem d0q [DecidableEq α] (O : STO lt) (l : List α) : SS lt (d6f lt l) := b3i O l [] .nil
theorem d3g [DecidableEq α] (z : α) (l : List α) : z ∈ d6f lt l ↔ z ∈ l := by rw [d6f, b1c]; simp

theorem d6g [DecidableEq α] (O : STO lt) {l s : List α} (h : SS lt s) (hm : ∀ x, x ∈ s ↔ x ∈ l) : s = d6f lt l :=
 SS.uniq O h (d0q O l) (fun x => (hm x).trans (d3g x l).symm)

def d3h (lt : α → α → Bool) (x : α) : List α → List α
 | [] => [x]
 | y :: r => if lt x y then x :: y :: r else y :: d3h lt x r
def d2e (lt : α → α → Bool) (l : List α) : List α := l.foldl (fun acc x => d3h lt x acc) []
theorem b7n (x : α) : ∀ l : List α, (d3h lt x l).Perm (x :: l)
 | [] => List.Perm.refl _
 | y :: r => by
  unfold d3h
  split
  ·exact List.Perm.refl _
  ·exact ((b7n x r).cons y).trans (List.Perm.swap x y r)
theorem d0r (O : STO lt) (x : α) : ∀ l : List α, WS lt l → WS lt (d3h lt x l)
 | [], _ => by simp [d3h, WS]
 | y :: r, h => by
  unfold d3h
  obtain ⟨h1, h2⟩ := List.pairwise_cons.1 h
  split
  ·rename_i hx
   refine List.pairwise_cons.2 ⟨fun z hz => ?_, h⟩
   rcases List.mem_cons.1 hz with rfl | hz
   ·exact O.asymm hx
   ·exact O.ntrans (O.asymm hx) (h1 z hz)
  ·rename_i hx
   refine List.pairwise_cons.2 ⟨fun z hz => ?_, d0r O x r h2⟩
   rcases List.mem_cons.1 ((b7n x r).mem_iff.1 hz) with rfl | hz
   ·simpa using hx
   ·exact h1 z hz
theorem b3j (O : STO lt) : ∀ (l acc : List α), WS lt acc → WS lt (l.foldl (fun acc x => d3h lt x acc) acc)
 | [], _, h => h
 | x :: l, acc, h => b3j O l _ (d0r O x acc h)
theorem a9x : ∀ (l acc : List α), (l.foldl (fun acc x => d3h lt x acc) acc).Perm (acc ++ l)
 | [], acc => by simp
 | x :: l, acc => (a9x l _).trans (((b7n x acc).append_right l).trans (by
   have := List.perm_middle (a := x) (l₁ := acc) (l₂ := l)
   exact this.symm))
theorem c5j (O : STO lt) (l : List α) : WS lt (d2e lt l) := b3j O l [] .nil
theorem b3k (l : List α) : (d2e lt l).Perm l := a9x l []
theorem d0s (O : STO lt) {l s : List α} (h : WS lt s) (hp : s.Perm l) : s = d2e lt l := WS.uniq O h (c5j O l) (hp.trans (b3k l).symm)
theorem c7x (O : STO lt) {l l' : List α} (h : l.Perm l') : d2e lt l = d2e lt l' := d0s O (c5j O l) ((b3k l).trans h)
end
end
section
section
variable {α : Type} {lt : α → α → Bool}

def sw (l : List α) (i j : Nat) : List α := match l[i]?, l[j]? with
 | some a, some b => (l.set i b).set j a
 | _, _ => l
theorem d6h {l : List α} {i j : Nat} {a b : α} (hi : l[i]? = some a) (hj : l[j]? = some b) : sw l i j = (l.set i b).set j a := by simp [sw, hi, hj]
theorem b1d (l : List α) (i j : Nat) : (sw l i j).length = l.length := by
 unfold sw; split <;> simp
theorem d4r {l : List α} {i j : Nat} {a b : α} (hi : l[i]? = some a) (hj : l[j]? = some b) (k : Nat) : (sw l i j)[k]? = if k = j then some a else if k = i then some b else l[k]? := by
 have h1 := (List.getElem?_eq_some_iff.1 hi).1
 have h2 := (List.getElem?_eq_some_iff.1 hj).1
 rw [d6h hi hj, List.getElem?_set, List.getElem?_set]
 by_cases e : k = j
 ·subst e; simp [h2]
 ·rw [if_neg (Ne.symm e), if_neg e]
  by_cases e2 : k = i
  ·subst e2; simp [h1]
  ·rw [if_neg (Ne.symm e2), if_neg e2]
theorem d0t (l : List α) (i j : Nat) : (sw l i j).Perm l := by
 unfold sw
 split
 ·rename_i a b hi hj
  obtain ⟨h1, e1⟩ := List.getElem?_eq_some_iff.1 hi
  obtain ⟨h2, e2⟩ := List.getElem?_eq_some_iff.1 hj
  have := Array.swap_perm (xs := l.toArray) (i := i) (j := j) (by simpa using h1) (by simpa using h2)
  have e : (l.toArray.swap i j (by simpa using h1) (by simpa using h2)).toList = (l.set i b).set j a := by
   simp [Array.swap, e1, e2]
  have := this.toList
  rw [e] at this
  simpa using this
 ·exact List.Perm.refl _
def c7y (lt : α → α → Bool) (l : List α) : Prop := ∀ i a b, 0 < i → l[i]? = some a → l[(i - 1) / 2]? = some b → lt a b = false

def a7c (lt : α → α → Bool) (l : List α) (k : Nat) : List α :=
 if h : 0 < k then match l[k]?, l[(k - 1) / 2]? with
  | some a, some b => if lt a b then a7c lt (sw l k ((k - 1) / 2)) ((k - 1) / 2) else l
  | _, _ => l
 else l
termination_by k
decreasing_by omega
theorem b7o {l : List α} {k : Nat} {a b : α} (h : 0 < k) (ha : l[k]? = some a) (hb : l[(k - 1) / 2]? = some b) (hl : lt a b = true) : a7c lt l k = a7c lt (sw l k ((k - 1) / 2)) ((k - 1) / 2) := by
 rw [a7c, dif_pos h, ha, hb]; simp [hl]
theorem b7p {l : List α} {k : Nat} {a b : α} (ha : l[k]? = some a) (hb : l[(k - 1) / 2]? = some b) (hl : lt a b = false) : a7c lt l k = l := by
 rw [a7c]; split
 ·rw [ha, hb]; simp [hl]
 ·rfl
theorem siftUp_zero {l : List α} : a7c lt l 0 = l := by rw [a7c]; simp
def HU (lt : α → α → Bool) (l : List α) (k : Nat) : Prop :=
 (∀ i a b, 0 < i → i ≠ k → l[i]? = some a → l[(i - 1) / 2]? = some b → lt a b = false) ∧
 (∀ i a b, 0 < k → 0 < i → (i - 1) / 2 = k → l[i]? = some a → l[(k - 1) / 2]? = some b → lt a b = false)
theorem c5k (O : STO lt) (k : Nat) : ∀ (l : List α), k < l.length → HU lt l k → c7y lt (a7c lt l k) ∧ (a7c lt l k).Perm l := by
 induction k using Nat.strongRecOn with
 | _ k ih =>
 intro l hk h
 by_cases h0 : 0 < k
 ·obtain ⟨a, ha⟩ : ∃ a, l[k]? = some a := ⟨_, List.getElem?_eq_getElem hk⟩
  obtain ⟨b, hb⟩ : ∃ b, l[(k - 1) / 2]? = some b := ⟨_, List.getElem?_eq_getElem (by omega)⟩
  cases hl : lt a b
  ·rw [b7p ha hb hl]
   refine ⟨fun i c d hi hc hd => ?_, List.Perm.refl _⟩
   by_cases e : i = k
   ·subst e; rw [ha] at hc; rw [hb] at hd; cases hc; cases hd; exact hl
   ·exact h.1 i c d hi e hc hd
  ·rw [b7o h0 ha hb hl]
   have hg := d4r ha hb
   have := ih ((k - 1) / 2) (by omega) (sw l k ((k - 1) / 2)) (by rw [b1d]; omega) ⟨fun i c d hi hne hc hd => ?_, fun i c d hu hi hp hc hd => ?_⟩
   ·exact ⟨this.1, this.2.trans (d0t _ _ _)⟩
   ·rw [hg, if_neg hne] at hc
    rw [hg] at hd
    by_cases e : i = k
    ·subst e
     rw [if_pos rfl] at hc
     rw [if_pos rfl] at hd
     cases hc; cases hd
     exact O.asymm hl
    ·rw [if_neg e] at hc
     by_cases e1 : (i - 1) / 2 = (k - 1) / 2
     ·rw [if_pos e1] at hd
      cases hd
      have h1 := h.1 i c b hi e hc (by rw [e1]; exact hb)
      cases hc' : lt c a
      ·rfl
      ·rw [O.trans _ _ _ hc' hl] at h1; cases h1
     ·rw [if_neg e1] at hd
      by_cases e2 : (i - 1) / 2 = k
      ·rw [if_pos e2] at hd
       cases hd
       exact h.2 i c b h0 hi e2 hc hb
      ·rw [if_neg e2] at hd
       exact h.1 i c d hi e hc hd
   ·have hd' : l[((k - 1) / 2 - 1) / 2]? = some d := by
     rw [hg, if_neg (by omega), if_neg (by omega)] at hd; exact hd
    have hbd := h.1 ((k - 1) / 2) b d hu (by omega) hb hd'
    rw [hg, if_neg (by omega)] at hc
    by_cases e : i = k
    ·rw [if_pos e] at hc; cases hc; exact hbd
    ·rw [if_neg e] at hc
     exact O.ntrans hbd (h.1 i c b hi e hc (by rw [hp]; exact hb))
 ·have : k = 0 := by omega
  subst this
  rw [siftUp_zero]
  exact ⟨fun i c d hi hc hd => h.1 i c d hi (by omega) hc hd, List.Perm.refl _⟩
def b5p (lt : α → α → Bool) (l : List α) (x : α) : List α := a7c lt (l ++ [x]) l.length
theorem c7z (O : STO lt) {l : List α} (h : c7y lt l) (x : α) : c7y lt (b5p lt l x) ∧ (b5p lt l x).Perm (l ++ [x]) := by
 refine c5k O _ _ (by simp) ⟨fun i a b hi hne ha hb => ?_, fun i a b _ hi hp ha hb => ?_⟩
 ·have hlt := (List.getElem?_eq_some_iff.1 ha).1
  simp only [List.length_append, List.length_cons, List.length_nil] at hlt
  rw [List.getElem?_append_left (by omega)] at ha
  rw [List.getElem?_append_left (by omega)] at hb
  exact h i a b hi ha hb
 ·have hlt := (List.getElem?_eq_some_iff.1 ha).1
  simp only [List.length_append, List.length_cons, List.length_nil] at hlt
  omega
theorem c8a (k : Nat) : ∀ l : List α, (a7c lt l k).length = l.length := by
 induction k using Nat.strongRecOn with
 | _ k ih =>
 intro l
 rw [a7c]
 split
 ·split
  ·split
   ·rw [ih _ (by omega), b1d]
   ·rfl
  ·rfl
 ·rfl
theorem d0u (l : List α) (x : α) : (b5p lt l x).length = l.length + 1 := by rw [b5p, c8a]; simp

def a3o (lt : α → α → Bool) (l : List α) (k : Nat) : Nat := match l[2 * k + 2]?, l[2 * k + 1]? with
 | some c, some d => if lt c d then 2 * k + 2 else 2 * k + 1
 | _, _ => 2 * k + 1
theorem b0r (l : List α) (k : Nat) : a3o lt l k = 2 * k + 1 ∨ (a3o lt l k = 2 * k + 2 ∧ 2 * k + 2 < l.length) := by
 unfold a3o
 split
 ·rename_i c d h1 h2
  split
  ·exact .inr ⟨rfl, (List.getElem?_eq_some_iff.1 h1).1⟩
  ·exact .inl rfl
 ·exact .inl rfl
theorem d6i {l : List α} {k : Nat} {c d : α} (hc : l[2 * k + 2]? = some c) (hd : l[2 * k + 1]? = some d) (h : lt c d = true) : a3o lt l k = 2 * k + 2 := by
 unfold a3o; rw [hc, hd]; simp [h]
theorem d6j {l : List α} {k : Nat} {c d : α} (hc : l[2 * k + 2]? = some c) (hd : l[2 * k + 1]? = some d) (h : lt c d = false) : a3o lt l k = 2 * k + 1 := by
 unfold a3o; rw [hc, hd]; simp [h]
theorem d6k {l : List α} {k : Nat} (h : ¬ 2 * k + 2 < l.length) : a3o lt l k = 2 * k + 1 := by
 unfold a3o; rw [List.getElem?_eq_none (by omega)]

def a1x (lt : α → α → Bool) (l : List α) (k : Nat) : List α :=
 if h : 2 * k + 1 < l.length then match l[a3o lt l k]?, l[k]? with
  | some a, some b => if lt a b then a1x lt (sw l (a3o lt l k) k) (a3o lt l k) else l
  | _, _ => l
 else l
termination_by l.length - k
decreasing_by
 rw [b1d]
 rcases b0r (lt := lt) l k with h1 | h1 <;> omega
theorem a5k {l : List α} {k : Nat} (h : ¬ 2 * k + 1 < l.length) : a1x lt l k = l := by rw [a1x, dif_neg h]
theorem b3l {l : List α} {k : Nat} {a b : α} (h : 2 * k + 1 < l.length) (ha : l[a3o lt l k]? = some a) (hb : l[k]? = some b) (hl : lt a b = true) : a1x lt l k = a1x lt (sw l (a3o lt l k) k) (a3o lt l k) := by
 rw [a1x, dif_pos h, ha, hb]; simp [hl]
theorem b3m {l : List α} {k : Nat} {a b : α} (ha : l[a3o lt l k]? = some a) (hb : l[k]? = some b) (hl : lt a b = false) : a1x lt l k = l := by
 rw [a1x]; split
 ·rw [ha, hb]; simp [hl]
 ·rfl
theorem d3i (O : STO lt) {l : List α} {k i : Nat} {c d : α} (hi : 0 < i) (hp : (i - 1) / 2 = k) (hc : l[i]? = some c) (hd : l[a3o lt l k]? = some d) : lt c d = false := by
 have hlt := (List.getElem?_eq_some_iff.1 hc).1
 unfold a3o at hd
 split at hd
 ·rename_i x y h1 h2
  split at hd
  ·rename_i hxy
   rw [h1] at hd; cases hd
   rcases (show i = 2 * k + 1 ∨ i = 2 * k + 2 by omega) with e | e
   ·subst e; rw [h2] at hc; cases hc; exact O.asymm hxy
   ·subst e; rw [h1] at hc; cases hc; exact O.irr _
  ·rename_i hxy
   rw [h2] at hd; cases hd
   rcases (show i = 2 * k + 1 ∨ i = 2 * k + 2 by omega) with e | e
   ·subst e; rw [h2] at hc; cases hc; exact O.irr _
   ·subst e; rw [h1] at hc; cases hc; simpa using hxy
 ·rename_i hno
  rcases (show i = 2 * k + 1 ∨ i = 2 * k + 2 by omega) with e | e
  ·subst e; rw [hc] at hd; cases hd; exact O.irr _
  ·subst e; exact absurd hd (fun h => hno c d hc h)
def HD (lt : α → α → Bool) (l : List α) (k : Nat) : Prop :=
 (∀ i a b, 0 < i → (i - 1) / 2 ≠ k → l[i]? = some a → l[(i - 1) / 2]? = some b → lt a b = false) ∧
 (∀ i a b, 0 < k → 0 < i → (i - 1) / 2 = k → l[i]? = some a → l[(k - 1) / 2]? = some b → lt a b = false)
theorem c1d (O : STO lt) : ∀ (n k : Nat) (l : List α), l.length - k ≤ n → HD lt l k → c7y lt (a1x lt l k) ∧ (a1x lt l k).Perm l := by
 intro n
 induction n with
 | zero =>
  intro k l hn h
  rw [a5k (by omega)]
  refine ⟨fun i c d hi hc hd => ?_, List.Perm.refl _⟩
  have := (List.getElem?_eq_some_iff.1 hc).1
  exact h.1 i c d hi (by omega) hc hd
 | succ n ih =>
  intro k l hn h
  by_cases h0 : 2 * k + 1 < l.length
  ·have hcl : a3o lt l k < l.length := by rcases b0r (lt := lt) l k with h1 | h1 <;> omega
   have hcp : (a3o lt l k - 1) / 2 = k := by rcases b0r (lt := lt) l k with h1 | h1 <;> omega
   have hc0 : 0 < a3o lt l k := by rcases b0r (lt := lt) l k with h1 | h1 <;> omega
   obtain ⟨a, ha⟩ : ∃ a, l[a3o lt l k]? = some a := ⟨_, List.getElem?_eq_getElem hcl⟩
   obtain ⟨b, hb⟩ : ∃ b, l[k]? = some b := ⟨_, List.getElem?_eq_getElem (by omega)⟩
   have hch := fun i c (hi : 0 < i) hp hc => d3i O (l := l) (k := k) (i := i) (c := c) hi hp hc ha
   cases hl : lt a b
   ·rw [b3m ha hb hl]
    refine ⟨fun i c d hi hc hd => ?_, List.Perm.refl _⟩
    by_cases e : (i - 1) / 2 = k
    ·rw [e, hb] at hd; cases hd
     exact O.ntrans hl (hch i c hi e hc)
    ·exact h.1 i c d hi e hc hd
   ·rw [b3l h0 ha hb hl]
    have hg := d4r ha hb
    generalize hm : a3o lt l k = m at *
    have := ih m (sw l m k) (by rw [b1d]; omega) ⟨fun i c d hi hne hc hd => ?_, fun i c d hm0 hi hp hc hd => ?_⟩
    ·exact ⟨this.1, this.2.trans (d0t _ _ _)⟩
    ·rw [hg] at hc hd
     by_cases e : (i - 1) / 2 = k
     ·rw [if_pos e] at hd; cases hd
      rw [if_neg (by omega)] at hc
      by_cases e1 : i = m
      ·rw [if_pos e1] at hc; cases hc; exact O.asymm hl
      ·rw [if_neg e1] at hc; exact hch i c hi e hc
     ·rw [if_neg e, if_neg hne] at hd
      by_cases e1 : i = k
      ·rw [if_pos e1] at hc; cases hc
       subst e1
       exact h.2 m a d hi hc0 hcp ha hd
      ·rw [if_neg e1] at hc
       by_cases e2 : i = m
       ·subst e2; exact absurd hcp e
       ·rw [if_neg e2] at hc
        exact h.1 i c d hi e hc hd
    ·rw [hg] at hc hd
     rw [if_neg (by omega), if_neg (by omega)] at hc
     rw [if_pos (by omega)] at hd
     cases hd
     exact h.1 i c a hi (by omega) hc (by rw [hp]; exact ha)
  ·rw [a5k h0]
   refine ⟨fun i c d hi hc hd => ?_, List.Perm.refl _⟩
   have := (List.getElem?_eq_some_iff.1 hc).1
   exact h.1 i c d hi (by omega) hc hd
theorem c3o (n k : Nat) : ∀ l : List α, l.length - k ≤ n → (a1x lt l k).length = l.length := by
 induction n generalizing k with
 | zero => intro l h; rw [a5k (by omega)]
 | succ n ih =>
  intro l h
  rw [a1x]
  split
  ·split
   ·split
    ·rw [ih _ _ (by rw [b1d]; rcases b0r (lt := lt) l k with h1 | h1 <;> omega), b1d]
    ·rfl
   ·rfl
  ·rfl

def b2c (lt : α → α → Bool) : List α → List α
 | [] => []
 | m :: r => a1x lt (((m :: r).set 0 ((m :: r).getLast (by simp))).take r.length) 0
theorem c1e (m : α) (r : List α) : (((m :: r).set 0 ((m :: r).getLast (by simp))).take r.length).Perm r := by
 rcases List.eq_nil_or_concat r with rfl | ⟨mid, x, rfl⟩
 ·simp
 ·simp only [List.set_cons_zero]
  have e : (m :: (mid.concat x)).getLast (by simp) = x := by simp [List.concat_eq_append, List.getLast_cons]
  rw [e]
  have e2 : (x :: mid.concat x).take (mid.concat x).length = x :: mid := by
   simp [List.concat_eq_append]
  rw [e2, List.concat_eq_append]
  exact (List.perm_append_comm (l₁ := [x]) (l₂ := mid))
theorem c8b (O : STO lt) {m : α} {r : List α} (h : c7y lt (m :: r)) : c7y lt (b2c lt (m :: r)) ∧ (b2c lt (m :: r)).Perm r := by
 have := c1d O _ 0 (((m :: r).set 0 ((m :: r).getLast (by simp))).take r.length) (Nat.le_refl _) ⟨fun i a b hi hne ha hb => ?_, fun i a b h0 => by omega⟩
 ·exact ⟨this.1, this.2.trans (c1e m r)⟩
 ·rw [List.getElem?_take] at ha hb
  split at ha
  ·split at hb
   ·rw [List.getElem?_set_ne (by omega)] at ha hb
    exact h i a b hi ha hb
   ·cases hb
  ·cases ha
theorem b3n : ∀ l : List α, (b2c lt l).length = l.length - 1
 | [] => rfl
 | m :: r => by
  rw [b2c, c3o _ _ _ (Nat.le_refl _)]
  simp
theorem d3j (O : STO lt) {m : α} {r : List α} (h : c7y lt (m :: r)) : ∀ (i : Nat) (a : α), (m :: r)[i]? = some a → lt a m = false := by
 intro i
 induction i using Nat.strongRecOn with
 | _ i ih =>
 intro a ha
 by_cases h0 : i = 0
 ·subst h0; simp at ha; subst ha; exact O.irr _
 ·have hlt := (List.getElem?_eq_some_iff.1 ha).1
  obtain ⟨b, hb⟩ : ∃ b, (m :: r)[(i - 1) / 2]? = some b := ⟨_, List.getElem?_eq_getElem (by omega)⟩
  exact O.ntrans (ih _ (by omega) b hb) (h i a b (by omega) ha hb)
def a6m (lt : α → α → Bool) : Nat → List α → List α
 | 0, _ => []
 | k + 1, l => match l with
  | [] => []
  | m :: r => m :: a6m lt k (b2c lt (m :: r))
theorem b7q (O : STO lt) : ∀ (k : Nat) (l : List α), l.length ≤ k → c7y lt l → WS lt (a6m lt k l) ∧ (a6m lt k l).Perm l
 | 0, l, hk, _ => by
  have : l = [] := List.length_eq_zero_iff.1 (by omega)
  subst this; exact ⟨.nil, List.Perm.refl _⟩
 | k + 1, [], _, _ => ⟨.nil, List.Perm.refl _⟩
 | k + 1, m :: r, hk, h => by
  obtain ⟨h1, h2⟩ := c8b O h
  obtain ⟨h3, h4⟩ := b7q O k (b2c lt (m :: r)) (by rw [b3n]; simpa using hk) h1
  refine ⟨List.pairwise_cons.2 ⟨fun z hz => ?_, h3⟩, (h4.trans h2).cons m⟩
  have hz' : z ∈ m :: r := List.mem_cons_of_mem _ ((h4.trans h2).mem_iff.1 hz)
  obtain ⟨i, hi⟩ := List.getElem?_of_mem hz'
  exact d3j O h i z hi
theorem d0v (O : STO lt) {l : List α} (h : c7y lt l) {k : Nat} (hk : l.length ≤ k) : a6m lt k l = d2e lt l := d0s O (b7q O k l hk h).1 (b7q O k l hk h).2

theorem b7r : ∀ (k : Nat) (l : List α), (a6m lt k l).length ≤ k
 | 0, _ => Nat.le_refl _
 | k + 1, [] => Nat.zero_le _
 | k + 1, m :: r => by simp only [a6m, List.length_cons]; have := b7r k (b2c lt (m :: r)); omega
def b0w (lt : α → α → Bool) (l : List α) : List α := l.foldl (b5p lt) []
theorem c8d (l : List α) (x : α) : b0w lt (l ++ [x]) = b5p lt (b0w lt l) x := by simp [b0w]
theorem d3k : c7y lt ([] : List α) := fun i a b _ h => by simp at h
theorem b7s (O : STO lt) : ∀ (l acc : List α), c7y lt acc → c7y lt (l.foldl (b5p lt) acc) ∧ (l.foldl (b5p lt) acc).Perm (acc ++ l)
 | [], acc, h => ⟨h, by simp⟩
 | x :: l, acc, h => by
  obtain ⟨h1, h2⟩ := c7z O h x
  obtain ⟨h3, h4⟩ := b7s O l _ h1
  refine ⟨h3, h4.trans ((h2.append_right l).trans ?_)⟩
  simp
theorem c6s (O : STO lt) (l : List α) : c7y lt (b0w lt l) ∧ (b0w lt l).Perm l := b7s O l [] d3k
theorem b3o (l : List α) : (b0w lt l).length = l.length := by
 have : ∀ (l acc : List α), (l.foldl (b5p lt) acc).length = acc.length + l.length := by
  intro l
  induction l with
  | nil => simp
  | cons x l ih => intro acc; rw [List.foldl_cons, ih, d0u]; simp; omega
 rw [b0w, this]; simp

theorem d3l (O : STO lt) (l : List α) : a6m lt l.length (b0w lt l) = d2e lt l := by
 rw [d0v O (c6s O l).1 (by rw [b3o]; exact Nat.le_refl _)]
 exact c7x O (c6s O l).2
theorem d0w [DecidableEq α] (O : STO lt) {l l' : List α} (hn : l'.Nodup) (hm : ∀ x, x ∈ l' ↔ x ∈ l) : d2e lt l' = d6f lt l := by
 refine d6g O ?_ fun x => ((b3k l').mem_iff).trans (hm x)
 have h1 := c5j O l'
 have h2 : (d2e lt l').Nodup := (b3k l').nodup_iff.2 hn
 exact (List.Pairwise.and h1 h2).imp fun {a b} h => O.lt_of h.1 h.2
end
end
section
structure Ev where
 time : Int
 to : Int
 from' : Int
 count : Int
 n : Int
 kind : Int
 arg : Int
 deriving DecidableEq, Inhabited
structure Ou where
 time : Int
 proc : Int
 count : Int
 n : Int
 value : Int
 deriving DecidableEq, Inhabited
structure St where
 x : Int
 y : Int
 count : Int
 deriving DecidableEq, Inhabited
structure Pa where
 ev : Ev
 after : St
 sends : List Ev
 outs : List Ou
 deriving DecidableEq, Inhabited
structure La where
 proc : Int
 base : St
 done : List Pa
 deriving DecidableEq, Inhabited
structure Vi where
 inc : Int
 version : Int
 events : List Ev
 deriving DecidableEq, Inhabited
structure Nd where
 id : Int
 up : Bool
 inc : Int
 g : Int
 lanes : List La
 kept : List Ev
 outs : List Ou
 led : Int
 version : Int
 views : List Vi
 known : List Int
 round : Int
 low : Int
 deriving DecidableEq, Inhabited
def evN (e : Ev) : List Int := [e.time, e.to, e.from', e.count, e.n, e.kind, e.arg]
def ouL (o : Ou) : List Int := [o.time, o.proc, o.count, o.n, o.value]
def stL (s : St) : List Int := [s.x, s.y, s.count]
theorem d0x {a b : Ev} (h : evN a = evN b) : a = b := by
 cases a; cases b; simp [evN] at h; simp [h]
def d2f : List Int → List Int → Int
 | a :: az, b :: bs => if a < b then -1 else if b < a then 1 else d2f az bs
 | [], [] => 0
 | [], _ :: _ => -1
 | _ :: _, [] => 1
theorem c3p (a b : Int) (az bs : List Int) : d2f (a :: az) (b :: bs) = if a < b then -1 else if b < a then 1 else d2f az bs := rfl
theorem c1f : ∀ az bs : List Int, az.length = bs.length → decide (d2f az bs < 0) = c1b az bs
 | [], [], _ => rfl
 | [], _ :: _, h => by simp at h
 | _ :: _, [], h => by simp at h
 | a :: az, b :: bs, h => by
  rw [c3p, a8d]
  by_cases h1 : a < b
  ·rw [if_pos h1, if_pos h1]; rfl
  ·rw [if_neg h1, if_neg h1]
   by_cases h2 : b < a
   ·rw [if_pos h2, if_pos h2]; rfl
   ·rw [if_neg h2, if_neg h2]; exact c1f az bs (by simpa using h)
theorem c3q {az bs : List Int} {i : Nat} {a b : Int} (ha : az[i]? = some a) (hb : bs[i]? = some b) : d2f (az.drop i) (bs.drop i) = if a < b then -1 else if b < a then 1 else d2f (az.drop (i + 1)) (bs.drop (i + 1)) := by
 obtain ⟨h1, e1⟩ := List.getElem?_eq_some_iff.1 ha
 obtain ⟨h2, e2⟩ := List.getElem?_eq_some_iff.1 hb
 rw [List.drop_eq_getElem_cons h1, List.drop_eq_getElem_cons h2, e1, e2, c3p]
def a2p (a b : Ev) : Bool := c1b (evN a) (evN b)
def b2d (a b : Ou) : Bool := c1b (ouL a) (ouL b)
theorem c8e : STO a2p := ⟨fun a => c6q _, fun a b c => c0b _ _ _, fun a b h => c6r _ _ rfl (fun e => h (d0x e))⟩

def s2s (l : List Ev) : List Ev := d6f a2p l
def d4s (l : List Ou) : List Ou := d2e b2d l

def r9r : List Ev → List Ev := List.foldl (fun acc e => if e ∈ acc then acc else acc ++ [e]) []
theorem c0d (x : Ev) : ∀ (l acc : List Ev), x ∈ l.foldl (fun acc e => if e ∈ acc then acc else acc ++ [e]) acc ↔ x ∈ acc ∨ x ∈ l
 | [], acc => by simp
 | e :: l, acc => by
  rw [List.foldl_cons, c0d x l]
  split
  ·rename_i h
   simp only [List.mem_cons]
   constructor
   ·rintro (h' | h')
    ·exact .inl h'
    ·exact .inr (.inr h')
   ·rintro (h' | h' | h')
    ·exact .inl h'
    ·subst h'; exact .inl h
    ·exact .inr h'
  ·simp only [List.mem_append, List.mem_cons, List.not_mem_nil, or_false, or_assoc]
theorem a8y : ∀ (l acc : List Ev), acc.Nodup → (l.foldl (fun acc e => if e ∈ acc then acc else acc ++ [e]) acc).Nodup
 | [], acc, h => h
 | e :: l, acc, h => by
  rw [List.foldl_cons]
  refine a8y l _ ?_
  split
  ·exact h
  ·rename_i hne
   exact List.nodup_append.2 ⟨h, by simp, fun a ha b hb => by
    rw [List.mem_singleton] at hb; subst hb; rintro rfl; exact hne ha⟩
theorem a1l (x : Ev) (l : List Ev) : x ∈ r9r l ↔ x ∈ l := by rw [r9r, c0d]; simp
theorem b5l (l : List Ev) : (r9r l).Nodup := a8y l [] .nil
theorem a8s (l : List Ev) (e : Ev) : r9r (l ++ [e]) = if e ∈ r9r l then r9r l else r9r l ++ [e] := by
 simp only [r9r, List.foldl_append, List.foldl_cons, List.foldl_nil]
 rfl
theorem b4u (l : List Ev) : (r9r l).length ≤ l.length := by
 have : ∀ (l acc : List Ev), (l.foldl (fun acc e => if e ∈ acc then acc else acc ++ [e]) acc).length ≤ acc.length + l.length := by
  intro l
  induction l with
  | nil => simp
  | cons e l ih =>
   intro acc
   rw [List.foldl_cons]
   refine Nat.le_trans (ih _) ?_
   split <;> simp <;> omega
 have := this l []
 simpa [r9r] using this

theorem b7t (l : List Ev) : a6m a2p (r9r l).length (b0w a2p (r9r l)) = s2s l := by
 rw [d3l c8e, d0w c8e (b5l l) (fun x => a1l x l)]; rfl
def s0s (p : Int) : Int := if 0 ≤ p ∧ p ≤ 3 then p.tmod 3 else -1
def d3m (p : Int) : Ev := if 0 ≤ p ∧ p ≤ 3 then ⟨0, p, -1, 0, p, 0, p⟩ else ⟨0, 0, 0, 0, 0, 0, 0⟩
def a1d (id : Int) : Nat → List Int
 | 0 => []
 | k + 1 => if s0s (k : Int) = id then a1d id k ++ [(k : Int)] else a1d id k
theorem a8e (id : Int) (k : Nat) : a1d id (k + 1) = if s0s (k : Int) = id then a1d id k ++ [(k : Int)] else a1d id k := rfl
theorem a6n (id : Int) : ∀ k, (a1d id k).length ≤ k
 | 0 => Nat.le_refl _
 | k + 1 => by
  have := a6n id k
  rw [a8e]; split <;> simp <;> omega
def pkx (bs : List Nat) (p : Nat) : Nat := bs.getD (p % bs.length) 0 * 131 + bs.getD ((p * 7 + 3) % bs.length) 0 * 1117 + p * 29 + p / bs.length * 53
def pk (bs : List Nat) (p n : Nat) : Nat :=
 if n = 0 ∨ bs.length = 0 then 0
 else if p < bs.length then bs.getD p 0 % n
 else (pkx bs p ^^^ pkx bs p / 64) % n
def d0y (p : Int) : La := ⟨p, ⟨0, 0, 0⟩, []⟩
def bp (l : La) : St × Int := (l.base, l.proc)
def d8k (a b : Nd) : Prop := a.id = b.id ∧ a.inc = b.inc ∧ a.g = b.g ∧ a.led = b.led ∧ a.kept = b.kept ∧ a.outs = b.outs ∧ a.lanes.map bp = b.lanes.map bp
instance (a b : Nd) : Decidable (d8k a b) := by unfold d8k; infer_instance
theorem d8l {a b r : Int} (h : ¬ (if a < b then -1 else if b < a then 1 else 0 : Int) = 0) : (if a < b then -1 else if b < a then 1 else r) = (if a < b then -1 else if b < a then 1 else 0 : Int) := by
 split
 ·rfl
 ·split
  ·rfl
  ·rename_i h1 h2; rw [if_neg h1, if_neg h2] at h; exact absurd rfl h
theorem d8m {a b r : Int} (h : (if a < b then -1 else if b < a then 1 else 0 : Int) = 0) : (if a < b then -1 else if b < a then 1 else r) = r := by
 split at h
 ·omega
 ·split at h
  ·omega
  ·rename_i h1 h2; rw [if_neg h1, if_neg h2]
def nd0 : Nd := ⟨0, false, 0, 0, [], [], [], 0, 0, [], [], 0, 0⟩
def vi0 : Vi := ⟨0, 0, []⟩
def d8n (id : Int) : Nd := if 0 ≤ id ∧ id ≤ 2 then ⟨id, true, 1, 0, (a1d id 4).map d0y, s2s ((a1d id 4).map d3m), [], 0, 1, [vi0, vi0, vi0], [0, 0, 0], 0, 41⟩ else nd0
def a8f (l : La) : La := ⟨l.proc, l.base, []⟩
def c3r (n : Nd) : Nd := ⟨n.id, n.up, n.inc, n.g, n.lanes.map a8f, n.kept, n.outs, n.led, 0, [vi0, vi0, vi0], [0, 0, 0], 0, 41⟩

def fnd (p : Int) (i : Nat) : Int := if 0 ≤ s0s p ∧ s0s p < i then 1 else 0
end
section
section
variable {α : Type} (sz : α → Nat) (mk : Nat → α → α)
def szs : List α → Nat
 | [] => 0
 | p :: r => sz p + szs r
def mks : Nat → List α → List α
 | _, [] => []
 | k, p :: r => mk k p :: mks (k + sz p) r
theorem a4x (k : Nat) (l : List α) : (mks sz mk k l).length = l.length := by
 induction l generalizing k with
 | nil => rfl
 | cons p r ih => simp [mks, ih]
theorem a0u {l : List α} {i : Nat} {p : α} (h : l[i]? = some p) : szs sz (l.take (i + 1)) = szs sz (l.take i) + sz p := by
 induction l generalizing i with
 | nil => simp at h
 | cons a r ih =>
  cases i with
  | zero => simp at h; subst h; simp [szs]
  | succ i => simp at h; simp only [List.take_succ_cons, szs, ih h]; omega
theorem c5l (l : List α) (i : Nat) : szs sz (l.take i) ≤ szs sz l := by
 induction l generalizing i with
 | nil => simp
 | cons a r ih =>
  cases i with
  | zero => simp [szs]
  | succ i => simp only [List.take_succ_cons, szs]; have := ih i; omega
theorem a3f {l : List α} {i : Nat} {p : α} (h : l[i]? = some p) : szs sz (l.take i) + sz p ≤ szs sz l := by
 rw [← a0u sz h]; exact c5l sz l (i + 1)
theorem a4y (h : ∀ p, 1 ≤ sz p) (l : List α) : l.length ≤ szs sz l := by
 induction l with
 | nil => exact Nat.zero_le _
 | cons a r ih => have := h a; simp only [szs, List.length_cons]; omega
theorem a4z {l : List α} {k i : Nat} {p : α} (h : l[i]? = some p) : (mks sz mk k l)[i]? = some (mk (k + szs sz (l.take i)) p) := by
 induction l generalizing i k with
 | nil => simp at h
 | cons a r ih =>
  cases i with
  | zero => simp at h; subst h; simp [mks, szs]
  | succ i => simp at h; simp only [mks, List.getElem?_cons_succ, ih h, List.take_succ_cons, szs]; rw [Nat.add_assoc]
end
theorem p2p {α : Type} {l : List α} {i : Nat} {e : α} (h : l[i]? = some e) : l.take (i + 1) = l.take i ++ [e] := by
 rw [List.take_add_one, h]; rfl
theorem r1r {α : Type} {l : List α} {i : Nat} {p : α} (h : l[i]? = some p) : l.drop i = p :: l.drop (i + 1) := by
 obtain ⟨hi, rfl⟩ := List.getElem?_eq_some_iff.1 h
 exact List.drop_eq_getElem_cons hi
def mEv (k : Nat) : Ev := ⟨k, (k + 1 : Nat), (k + 1 + 1 : Nat), (k + 1 + 1 + 1 : Nat), (k + 1 + 1 + 1 + 1 : Nat), (k + 1 + 1 + 1 + 1 + 1 : Nat), (k + 1 + 1 + 1 + 1 + 1 + 1 : Nat)⟩
def mOu (k : Nat) : Ou := ⟨k, (k + 1 : Nat), (k + 1 + 1 : Nat), (k + 1 + 1 + 1 : Nat), (k + 1 + 1 + 1 + 1 : Nat)⟩
def mSt (k : Nat) : St := ⟨k, (k + 1 : Nat), (k + 1 + 1 : Nat)⟩
def zI : Int → Nat := fun _ => 1
def kI : Nat → Int → Int := fun k _ => (k : Int)
def zEv : Ev → Nat := fun _ => 7
def kEv : Nat → Ev → Ev := fun k _ => mEv k
def zOu : Ou → Nat := fun _ => 5
def kOu : Nat → Ou → Ou := fun k _ => mOu k
def zPa (p : Pa) : Nat := 10 + szs zEv p.sends + szs zOu p.outs
def kPa (k : Nat) (p : Pa) : Pa := ⟨mEv k, mSt (k + 7), mks zEv kEv (k + 10) p.sends, mks zOu kOu (k + 10 + szs zEv p.sends) p.outs⟩
def zLa (l : La) : Nat := 4 + szs zPa l.done
def kLa (k : Nat) (l : La) : La := ⟨(k : Int), mSt (k + 1), mks zPa kPa (k + 4) l.done⟩
def zVi (v : Vi) : Nat := 2 + szs zEv v.events
def kVi (k : Nat) (v : Vi) : Vi := ⟨(k : Int), (k + 1 : Nat), mks zEv kEv (k + 2) v.events⟩
def zNd (n : Nd) : Nat := szs zLa n.lanes + szs zEv n.kept + szs zOu n.outs + szs zVi n.views + szs zI n.known
def kNd (k : Nat) (n : Nd) : Nd := { n with
 lanes := mks zLa kLa k n.lanes
 kept := mks zEv kEv (k + szs zLa n.lanes) n.kept
 outs := mks zOu kOu (k + szs zLa n.lanes + szs zEv n.kept) n.outs
 views := mks zVi kVi (k + szs zLa n.lanes + szs zEv n.kept + szs zOu n.outs) n.views
 known := mks zI kI (k + szs zLa n.lanes + szs zEv n.kept + szs zOu n.outs + szs zVi n.views) n.known }
end
section
def lf (left c : Nat) : Int := if c ≤ left then ((left - c : Nat) : Int) else -1
theorem a2k {left c : Nat} (h : c ≤ left) : lf left c = ((left - c : Nat) : Int) := if_pos h
theorem a3w {left c : Nat} (h : ¬ c ≤ left) : lf left c = -1 := if_neg h
theorem b5q {left c : Nat} (h : lf left c < 0) : ¬ c ≤ left := fun h2 => by rw [a2k h2] at h; omega
theorem b3p {left c : Nat} (h : ¬ lf left c < 0) : c ≤ left := Decidable.byContradiction fun h2 => h (by rw [a3w h2]; decide)
def cPa (p : Pa) : Nat := p.sends.length + p.outs.length
def c1g (l : List Pa) : Nat := l.length + szs cPa l
def cLa (l : La) : Nat := c1g l.done
def b5m (l : List La) : Nat := l.length + szs cLa l
def cVi (v : Vi) : Nat := v.events.length
def c0e (l : List Vi) : Nat := l.length + szs cVi l
def cNd (n : Nd) : Nat := b5m n.lanes + n.kept.length + n.outs.length + c0e n.views + n.known.length
end
section
def b7u (e : Ev) : Prop := (0 ≤ e.time ∧ e.time ≤ 40) ∧ (0 ≤ e.to ∧ e.to ≤ 3) ∧ (-1 ≤ e.from' ∧ e.from' ≤ 3) ∧ (0 ≤ e.count ∧ e.count ≤ 12) ∧ (0 ≤ e.n ∧ e.n ≤ 3) ∧ (0 ≤ e.kind ∧ e.kind ≤ 3) ∧ (0 ≤ e.arg ∧ e.arg ≤ 999)
instance (e : Ev) : Decidable (b7u e) := by unfold b7u; infer_instance
def c0f (s : St) : Prop := (0 ≤ s.x ∧ s.x ≤ 999) ∧ (0 ≤ s.y ∧ s.y ≤ 999) ∧ (0 ≤ s.count ∧ s.count ≤ 12)
instance (s : St) : Decidable (c0f s) := by unfold c0f; infer_instance
def c6t (o : Ou) : Prop := (0 ≤ o.time ∧ o.time ≤ 40) ∧ (0 ≤ o.proc ∧ o.proc ≤ 3) ∧ (0 ≤ o.count ∧ o.count ≤ 11) ∧ (0 ≤ o.n ∧ o.n ≤ 1) ∧ (0 ≤ o.value ∧ o.value ≤ 999)
instance (o : Ou) : Decidable (c6t o) := by unfold c6t; infer_instance
section
variable {α : Type} (ok : α → Bool) (lt : α → α → Bool)

def a8z : Option α → List α → Bool
 | _, [] => true
 | o, a :: r => ok a && (match o with
  | none => true
  | some b => lt b a) && a8z (some a) r
theorem a4l {o : Option α} {a : α} {r : List α} (h : ok a = false) : a8z ok lt o (a :: r) = false := by simp [a8z, h]
theorem b4v {b a : α} {r : List α} (h : lt b a = false) : a8z ok lt (some b) (a :: r) = false := by simp [a8z, h]
theorem a8g {b a : α} {r : List α} (h : ok a = true) (h2 : lt b a = true) : a8z ok lt (some b) (a :: r) = a8z ok lt (some a) r := by simp [a8z, h, h2]
theorem a5z {a : α} {r : List α} (h : ok a = true) : a8z ok lt none (a :: r) = a8z ok lt (some a) r := by simp [a8z, h]
end
def a9l {α : Type} (l : List α) (i : Nat) : Option α := match i with
 | 0 => none
 | i + 1 => l[i]?
def a8k {α : Type} (ok : α → Bool) (lt : α → α → Bool) (l : List α) (most : Int) : Bool := decide ((l.length : Int) ≤ most) && a8z ok lt none l
theorem a9y {α : Type} {ok : α → Bool} {lt : α → α → Bool} {l : List α} {most : Int} (h : ¬ (l.length : Int) ≤ most) : a8k ok lt l most = false := by simp [a8k, h]
theorem b7v {α : Type} {ok : α → Bool} {lt : α → α → Bool} {l : List α} {most : Int} (h : (l.length : Int) ≤ most) : a8k ok lt l most = a8z ok lt none l := by simp [a8k, h]
def okE (e : Ev) : Bool := decide (b7u e)
def okO (o : Ou) : Bool := decide (c6t o)
theorem c6u (a b : Int) (x y : List Int) : c1b (a :: x) (b :: y) = true ↔ a < b ∨ (a = b ∧ c1b x y = true) := by
 rw [a8d]
 by_cases h1 : a < b
 ·simp [h1]
 ·by_cases h2 : b < a
  ·simp [h1, h2]; omega
  ·have : a = b := by omega
   subst this; simp
def d0z (a b : Ev) : Prop := a.time < b.time ∨ (a.time = b.time ∧ (a.to < b.to ∨ (a.to = b.to ∧ (a.from' < b.from' ∨ (a.from' = b.from' ∧ (a.count < b.count ∨ (a.count = b.count ∧ (a.n < b.n ∨ (a.n = b.n ∧ (a.kind < b.kind ∨ (a.kind = b.kind ∧ a.arg < b.arg)))))))))))
instance (a b : Ev) : Decidable (d0z a b) := by unfold d0z; infer_instance
theorem a8t (a b : Ev) : a2p a b = decide (d0z a b) := by
 rw [Bool.eq_iff_iff, decide_eq_true_iff]
 simp only [a2p, evN, c6u, d0z]
 simp [c1b]
def d2g (a b : Ou) : Prop := a.time < b.time ∨ (a.time = b.time ∧ (a.proc < b.proc ∨ (a.proc = b.proc ∧ (a.count < b.count ∨ (a.count = b.count ∧ (a.n < b.n ∨ (a.n = b.n ∧ a.value < b.value)))))))
instance (a b : Ou) : Decidable (d2g a b) := by unfold d2g; infer_instance
theorem b0s (a b : Ou) : b2d a b = decide (d2g a b) := by
 rw [Bool.eq_iff_iff, decide_eq_true_iff]
 simp only [b2d, ouL, c6u, d2g]
 simp [c1b]
def b4w (proc : Int) (p : Pa) : Bool := decide (b7u p.ev) && decide (p.ev.to = proc) && decide (c0f p.after) && a8k okE a2p p.sends 2 && a8k okO b2d p.outs 2
def d4t (a b : Pa) : Bool := a2p a.ev b.ev
def b4x (l : La) : Bool := decide (0 ≤ l.proc ∧ l.proc ≤ 3) && decide (c0f l.base) && a8k (b4w l.proc) d4t l.done 100
theorem d1a {l : La} (h1 : 0 ≤ l.proc ∧ l.proc ≤ 3) (h2 : c0f l.base) (h3 : l.done.length ≤ 100) : b4x l = a8z (b4w l.proc) d4t none l.done := by
 rw [b4x, decide_eq_true h1, decide_eq_true h2, b7v (by omega)]; rfl
theorem d4u {l : La} (h : ¬ (0 ≤ l.proc ∧ l.proc ≤ 3)) : b4x l = false := by rw [b4x, decide_eq_false h]; rfl
theorem d4v {l : La} (h : ¬ c0f l.base) : b4x l = false := by rw [b4x, decide_eq_false h]; simp
theorem d4w {l : La} (h : ¬ l.done.length ≤ 100) : b4x l = false := by rw [b4x, a9y (by omega)]; simp
end
section
noncomputable def kb (p : Prop) : Bool := @decide p (Classical.propDecidable p)
theorem d6l {p : Prop} (h : p) : true = kb p := by unfold kb; exact (@decide_eq_true p (Classical.propDecidable p) h).symm
theorem a5l {p : Prop} (h : ¬ p) : false = kb p := by unfold kb; exact (@decide_eq_false p (Classical.propDecidable p) h).symm
theorem b1e {p : Prop} : kb p = true ↔ p := ⟨fun h => Classical.byContradiction (fun hn => by rw [← a5l hn] at h; cases h), fun h => (d6l h).symm⟩
theorem a5g {p : Prop} (h : kb p = false) : ¬ p := fun hp => by rw [← d6l hp] at h; cases h
theorem d6m {b : Bool} {p : Prop} (h : b = true ↔ p) : b = kb p := by
 cases b
 ·exact a5l fun hp => by have := h.2 hp; cases this
 ·exact d6l (h.1 rfl)
def a7d (n : Nd) : Prop := (0 ≤ n.id ∧ n.id ≤ 2) ∧ (1 ≤ n.inc ∧ n.inc ≤ 9999) ∧ (0 ≤ n.g ∧ n.g ≤ 41) ∧ (0 ≤ n.led ∧ n.led ≤ 9999) ∧ (0 ≤ n.version ∧ n.version ≤ 9999) ∧ (0 ≤ n.round ∧ n.round ≤ 9999) ∧ (0 ≤ n.low ∧ n.low ≤ 41)
instance (n : Nd) : Decidable (a7d n) := by unfold a7d; infer_instance
def c8n (v : Vi) : Prop := (0 ≤ v.inc ∧ v.inc ≤ 9999) ∧ (0 ≤ v.version ∧ v.version ≤ 9999) ∧ a8k okE a2p v.events 100 = true
def d3n (n : Nd) : Prop := ∀ (i : Nat) v k, n.views[i]? = some v → n.known[i]? = some k → c8n v ∧ 0 ≤ k ∧ k ≤ 41
def a7k (n : Nd) : Prop := n.views.length = 3 ∧ n.known.length = 3 ∧ (0 ≤ n.version ∧ n.version ≤ 9999) ∧ (0 ≤ n.round ∧ n.round ≤ 9999) ∧ (0 ≤ n.low ∧ n.low ≤ 41) ∧ d3n n
def d3o (n : Nd) : Prop := ∀ (i : Nat) l, n.lanes[i]? = some l → (a1d n.id 4)[i]? = some l.proc ∧ b4x l = true
def a8u (n : Nd) : Prop := a7d n ∧ a8k okE a2p n.kept 100 = true ∧ a8k okO b2d n.outs 96 = true ∧ (∀ (i : Nat) o, n.outs[i]? = some o → o.time < n.g) ∧ n.lanes.length = (a1d n.id 4).length ∧ n.views.length = 3 ∧ n.known.length = 3 ∧ d3o n ∧ d3n n

def c8f {α : Type} (l : List α) (p : Nat → α → Prop) (i : Nat) : Prop := ∀ (j : Nat) a, j < i → l[j]? = some a → p j a
theorem a3x {α : Type} {l : List α} {p : Nat → α → Prop} : c8f l p 0 := fun j a h => absurd h (Nat.not_lt_zero j)
theorem a2t {α : Type} {l : List α} {p : Nat → α → Prop} {i : Nat} {a : α} (h : c8f l p i) (ha : l[i]? = some a) (hp : p i a) : c8f l p (i + 1) := fun j b hj hb => by
 by_cases e : j = i
 ·subst e; rw [ha] at hb; cases hb; exact hp
 ·exact h j b (by omega) hb
theorem a5m {α : Type} {l : List α} {p : Nat → α → Prop} {i : Nat} (h : c8f l p i) (hi : l.length ≤ i) : ∀ (j : Nat) a, l[j]? = some a → p j a := fun j a ha => h j a (by have := (List.getElem?_eq_some_iff.1 ha).1; omega) ha
end
section
def a7l (l : La) : List Ev := l.done.flatMap Pa.sends
def a0l (n : Nd) : List Ev := n.kept ++ n.lanes.flatMap a7l
def a9m (n : Nd) (j : Nat) : List Ev := if (j : Int) = n.id then [] else (n.views.getD j vi0).events
def a0i (n : Nd) (i : Nat) : List Ev := (List.range i).flatMap (a9m n)
def a6t (proc g : Int) (e : Ev) : Bool := decide (e.to = proc ∧ g ≤ e.time)
def a6u (n : Nd) (proc : Int) : List Ev := s2s ((a0l n ++ a0i n 3).filter (a6t proc n.g))
theorem a8h {α β : Type} {f : α → List β} {l : List α} {i : Nat} {p : α} (h : l[i]? = some p) : (l.take (i + 1)).flatMap f = (l.take i).flatMap f ++ f p := by
 rw [List.take_add_one, h]; simp
theorem c3s {α β : Type} {f : α → List β} {l : List α} {i : Nat} {p : α} (h : l[i]? = some p) : ((l.take i).flatMap f).length + (f p).length ≤ (l.flatMap f).length := by
 have e : l = l.take i ++ p :: l.drop (i + 1) := by
  rw [← r1r h, List.take_append_drop]
 conv => rhs; rw [e]
 simp only [List.flatMap_append, List.flatMap_cons, List.length_append]; omega
theorem b7w {n : Nd} {i j : Nat} {p : La} {q : Pa} (hp : n.lanes[i]? = some p) (hq : p.done[j]? = some q) : (n.kept ++ (n.lanes.take i).flatMap a7l ++ (p.done.take j).flatMap Pa.sends ++ q.sends).length ≤ (a0l n).length := by
 have h1 := c3s (f := a7l) hp
 have h2 := c3s (f := Pa.sends) hq
 have h3 : (a7l p).length = (p.done.flatMap Pa.sends).length := rfl
 simp only [a0l, List.length_append] at *
 omega
theorem a0o (n : Nd) (i : Nat) : a0i n (i + 1) = a0i n i ++ a9m n i := by simp [a0i, List.range_succ]
theorem b7x (n : Nd) {i : Nat} (h : i ≤ 3) : (a0i n i).length ≤ (a0i n 3).length := by
 have : i = 0 ∨ i = 1 ∨ i = 2 ∨ i = 3 := by omega
 have h0 : a0i n 0 = [] := rfl
 have h1 := a0o n 0
 have h2 := a0o n 1
 have h3 := a0o n 2
 rcases this with rfl | rfl | rfl | rfl <;> simp only [h3, h2, h1, h0, List.length_append, List.length_nil] <;> omega
theorem a1g {α : Type} {p : α → Bool} {l : List α} {i : Nat} {a : α} (h : l[i]? = some a) : (l.take (i + 1)).filter p = (l.take i).filter p ++ if p a then [a] else [] := by
 rw [List.take_add_one, h, List.filter_append]
 cases hp : p a <;> simp [hp]
end
section
def same : List Pa → List Ev → Nat
 | p :: r, e :: s => if p.ev = e then same r s + 1 else 0
 | _, _ => 0
theorem c3t {l : List Pa} {s : List Ev} {i : Nat} {p : Pa} {e : Ev} (hp : l[i]? = some p) (he : s[i]? = some e) (h : p.ev = e) : same (l.drop i) (s.drop i) = same (l.drop (i + 1)) (s.drop (i + 1)) + 1 := by
 rw [r1r hp, r1r he, same, if_pos h]
theorem c3u {l : List Pa} {s : List Ev} {i : Nat} {p : Pa} {e : Ev} (hp : l[i]? = some p) (he : s[i]? = some e) (h : ¬ p.ev = e) : same (l.drop i) (s.drop i) = 0 := by
 rw [r1r hp, r1r he, same, if_neg h]
theorem c3v {l : List Pa} {s : List Ev} {i : Nat} (h : l.length ≤ i) : same (l.drop i) (s.drop i) = 0 := by
 rw [List.drop_of_length_le h]; rfl
theorem c3w {l : List Pa} {s : List Ev} {i : Nat} (h : s.length ≤ i) : same (l.drop i) (s.drop i) = 0 := by
 rw [List.drop_of_length_le h]; cases l.drop i <;> rfl
section
variable {α : Type} [DecidableEq α] {lt : α → α → Bool}
theorem c0g (O : STO lt) {x : α} : ∀ {a b : List α}, (∀ y ∈ a, lt y x = true) → (∀ y ∈ b, lt x y = true) → c3n lt x (a ++ b) = a ++ x :: b
 | [], [], _, _ => rfl
 | [], y :: b, _, hb => by
  have h := hb y (List.mem_cons_self ..)
  have hne : x ≠ y := fun e => by subst e; rw [O.irr] at h; cases h
  simp only [List.nil_append, c3n, if_neg hne, h, if_true]
 | y :: a, b, ha, hb => by
  have h := ha y (List.mem_cons_self ..)
  have hne : x ≠ y := fun e => by subst e; rw [O.irr] at h; cases h
  have hn : lt x y = false := O.asymm h
  simp only [List.cons_append, c3n, if_neg hne, hn, Bool.false_eq_true, if_false]
  rw [c0g O (fun z hz => ha z (List.mem_cons_of_mem _ hz)) hb]
theorem d6n (O : STO lt) {x : α} {o : List α} (h : SS lt o) (hx : x ∈ o) : c3n lt x o = o :=
 SS.uniq O (c5i O x o h) h fun z => by rw [b6h]; exact ⟨fun q => q.elim (fun e => e ▸ hx) id, .inr⟩

theorem d1b (O : STO lt) {x : α} {o : List α} {k : Nat} (h : SS lt o) (hk : ∀ (j : Nat) y, k ≤ j → o[j]? = some y → lt x y = true) (hl : ∀ y, 0 < k → o[k - 1]? = some y → lt x y = false ∧ y ≠ x) (hk2 : k ≤ o.length) : c3n lt x o = o.take k ++ x :: o.drop k := by
 conv => lhs; rw [← List.take_append_drop k o]
 refine c0g O (fun y hy => ?_) (fun y hy => ?_)
 ·obtain ⟨j, hj⟩ := List.getElem?_of_mem hy
  rw [List.getElem?_take] at hj
  split at hj
  ·rename_i hjk
   have hkl : k - 1 < o.length := by omega
   obtain ⟨z, hz⟩ : ∃ z, o[k - 1]? = some z := ⟨_, List.getElem?_eq_getElem hkl⟩
   obtain ⟨q1, q2⟩ := hl z (by omega) hz
   have hzx : lt z x = true := by
    rcases O.tot _ _ q2 with h1 | h1
    ·exact h1
    ·rw [h1] at q1; cases q1
   by_cases e : j = k - 1
   ·subst e; rw [hj] at hz; cases hz; exact hzx
   ·have hlt : lt y z = true := by
     obtain ⟨p1, rfl⟩ := List.getElem?_eq_some_iff.1 hj
     obtain ⟨p2, rfl⟩ := List.getElem?_eq_some_iff.1 hz
     exact List.pairwise_iff_getElem.1 h j (k - 1) p1 p2 (by omega)
    exact O.trans _ _ _ hlt hzx
  ·cases hj
 ·obtain ⟨j, hj⟩ := List.getElem?_of_mem hy
  rw [List.getElem?_drop] at hj
  exact hk (k + j) y (by omega) hj
end
theorem c5m (l : List Ev) (x : Ev) : s2s (l ++ [x]) = c3n a2p x (s2s l) := by simp [s2s, d6f]
theorem b2e {l : List Ev} {i : Nat} {x : Ev} (h : l[i]? = some x) : s2s (l.take (i + 1)) = c3n a2p x (s2s (l.take i)) := by rw [p2p h, c5m]
theorem d1c (l : List Ev) : SS a2p (s2s l) := d0q c8e l
theorem d1e (l : List Ev) : (s2s l).length ≤ l.length := by
 have := (b7t l)
 rw [← this]
 exact Nat.le_trans (b7r _ _) (b4u l)
section
variable {α : Type} {o : List α} {n : Nat} {w x z : α}
theorem c3x (hn : n ≤ o.length) : (o.take n).length = n := by rw [List.length_take]; omega
theorem c6v (hn : n ≤ o.length) (h0 : 0 < n) (hz : o[n - 1]? = some z) : (o.take n ++ w :: o.drop n)[n - 1]? = some z := by
 rw [List.getElem?_append_left (by rw [c3x hn]; omega), List.getElem?_take, if_pos (by omega), hz]
theorem c3y (hn : n ≤ o.length) : (o.take n ++ w :: o.drop n)[n]? = some w := by
 rw [List.getElem?_append_right (by rw [c3x hn]; exact Nat.le_refl _), c3x hn, Nat.sub_self]; rfl
theorem d1f (hn : n ≤ o.length) : (o.take n ++ w :: o.drop n).set n x = o.take n ++ x :: o.drop n := by
 rw [List.set_append_right _ _ (by rw [c3x hn]; exact Nat.le_refl _), c3x hn, Nat.sub_self, List.set_cons_zero]
theorem d4x (hn : n ≤ o.length) (h0 : 0 < n) (hz : o[n - 1]? = some z) : (o.take n ++ w :: o.drop n).set n z = o.take (n - 1) ++ z :: o.drop (n - 1) := by
 rw [d1f hn]
 have e1 : o.take n = o.take (n - 1) ++ [z] := by
  have := p2p hz
  rwa [show n - 1 + 1 = n from by omega] at this
 have e2 : o.drop (n - 1) = z :: o.drop n := by
  have := r1r hz
  rwa [show n - 1 + 1 = n from by omega] at this
 rw [e1, e2]; simp
end
end
section
section
variable {α : Type} {ok : α → Bool} {lt : α → α → Bool}
theorem c6w : ∀ {l : List α} {o : Option α}, a8z ok lt o l = true → ∀ p ∈ l, ok p = true
 | [], _, _, p, hp => by cases hp
 | a :: r, o, h, p, hp => by
  simp only [a8z, Bool.and_eq_true] at h
  rcases List.mem_cons.1 hp with rfl | hp
  ·exact h.1.1
  ·exact c6w h.2 p hp
theorem a2l {l : List α} {most : Int} (h : a8k ok lt l most = true) : (l.length : Int) ≤ most ∧ ∀ p ∈ l, ok p = true := by
 simp only [a8k, Bool.and_eq_true, decide_eq_true_eq] at h
 exact ⟨h.1, c6w h.2⟩
end
theorem a4h {α β : Type} {f : α → List β} {k : Nat} : ∀ {l : List α}, (∀ a ∈ l, (f a).length ≤ k) → (l.flatMap f).length ≤ l.length * k
 | [], _ => by simp
 | a :: r, h => by
  have h1 := h a (List.mem_cons_self ..)
  have h2 := a4h (f := f) (k := k) (l := r) fun b hb => h b (List.mem_cons_of_mem _ hb)
  simp only [List.flatMap_cons, List.length_append, List.length_cons, Nat.add_mul, Nat.one_mul]
  omega
theorem a6b {l : La} (h : b4x l = true) : l.done.length ≤ 100 ∧ ∀ p ∈ l.done, p.sends.length ≤ 2 ∧ p.outs.length ≤ 2 := by
 simp only [b4x, Bool.and_eq_true] at h
 obtain ⟨h1, h2⟩ := a2l h.2
 refine ⟨by omega, fun p hp => ?_⟩
 have := h2 p hp
 simp only [b4w, Bool.and_eq_true] at this
 have a := (a2l this.1.2).1
 have b := (a2l this.2).1
 omega
theorem d3p {l : La} (h : b4x l = true) : (a7l l).length ≤ 200 := by
 obtain ⟨h1, h2⟩ := a6b h
 have := a4h (f := Pa.sends) (k := 2) (l := l.done) fun p hp => (h2 p hp).1
 simp only [a7l]; omega
theorem c5n {n : Nd} (hk : a8k okE a2p n.kept 100 = true) (hl : n.lanes.length ≤ 4) (ho : d3o n) : (a0l n).length ≤ 900 := by
 have h1 := (a2l hk).1
 have := a4h (f := a7l) (k := 200) (l := n.lanes) fun l hm => by
  obtain ⟨i, hi⟩ := List.getElem?_of_mem hm
  exact d3p (ho i l hi).2
 simp only [a0l, List.length_append]; omega
theorem c1h {n : Nd} (h3 : n.views.length = 3) (hk : n.known.length = 3) (hv : d3n n) : (a0i n 3).length ≤ 300 := by
 have := a4h (f := a9m n) (k := 100) (l := List.range 3) fun j hj => by
  rw [List.mem_range] at hj
  unfold a9m
  split
  ·simp
  ·obtain ⟨v, hv1⟩ : ∃ v, n.views[j]? = some v := ⟨_, List.getElem?_eq_getElem (by omega)⟩
   obtain ⟨k, hk1⟩ : ∃ k, n.known[j]? = some k := ⟨_, List.getElem?_eq_getElem (by omega)⟩
   have := (a2l (hv j v k hv1 hk1).1.2.2).1
   rw [List.getD_eq_getElem?_getD, hv1]
   simp only [Option.getD_some]; omega
 simpa [a0i] using this
def a1r (n : Nd) : Prop := a8u n ∧ ∀ (i : Nat) p l, (a1d n.id 4)[i]? = some p → n.lanes[i]? = some l → l.done.length ≤ same l.done (a6u n p) ∧ (a6u n p).length ≤ 100

theorem b7y : ∀ {l : List Ou} {o : Option Ou}, a8z okO b2d o l = true → ∀ (i j : Nat) a b, i ≤ j → l[i]? = some a → l[j]? = some b → a.time ≤ b.time
 | [], _, _, i, j, a, b, _, h, _ => by simp at h
 | x :: r, o, h, i, j, a, b, hij, ha, hb => by
  simp only [a8z, Bool.and_eq_true] at h
  have step : ∀ {r : List Ou} {x : Ou}, a8z okO b2d (some x) r = true → ∀ y, r[0]? = some y → x.time ≤ y.time := fun {r x} h y hy => by
   cases r with
   | nil => simp at hy
   | cons z r =>
    simp only [List.getElem?_cons_zero, Option.some.injEq] at hy
    subst hy
    simp only [a8z, Bool.and_eq_true] at h
    have := h.1.2
    rw [b0s, decide_eq_true_iff] at this
    unfold d2g at this
    omega
  cases j with
  | zero =>
   have : i = 0 := by omega
   subst this
   rw [ha] at hb; cases hb; omega
  | succ j =>
   cases i with
   | succ i => exact b7y h.2 i j a b (by omega) (by simpa using ha) (by simpa using hb)
   | zero =>
    simp only [List.getElem?_cons_zero, Option.some.injEq] at ha
    subst ha
    simp only [List.getElem?_cons_succ] at hb
    have hr : 0 < r.length := by have := (List.getElem?_eq_some_iff.1 hb).1; omega
    obtain ⟨y, hy⟩ : ∃ y, r[0]? = some y := ⟨_, List.getElem?_eq_getElem hr⟩
    have h1 := step h.2 y hy
    have h2 := b7y h.2 0 j y b (by omega) hy hb
    omega
theorem c3z {n : Nd} (ho : a8k okO b2d n.outs 96 = true) {o : Ou} (hl : n.outs[n.outs.length - 1]? = some o) (ht : o.time < n.g) : ∀ (i : Nat) a, n.outs[i]? = some a → a.time < n.g := fun i a ha => by
 have h1 := (List.getElem?_eq_some_iff.1 ha).1
 simp only [a8k, Bool.and_eq_true] at ho
 have := b7y ho.2 i (n.outs.length - 1) a o (by omega) ha hl
 omega
end
section
open Classical in
noncomputable def d9n (n : Nd) : Nd := if a1r n then { c3r n with up := false } else nd0
open Classical in
noncomputable def d9o (n : Nd) : Nd := if a1r n then (if n.up = true ∨ 9999 ≤ n.inc then n else { c3r n with up := true, inc := n.inc + 1, version := 1 }) else nd0
theorem b3q {α : Type} {sz : α → Nat} {k : Nat} : ∀ {l : List α}, (∀ a ∈ l, sz a ≤ k) → szs sz l ≤ l.length * k
 | [], _ => by simp [szs]
 | a :: r, h => by
  have h1 := h a (List.mem_cons_self ..)
  have h2 := b3q (sz := sz) (k := k) (l := r) fun b hb => h b (List.mem_cons_of_mem _ hb)
  simp only [szs, List.length_cons, Nat.add_mul, Nat.one_mul]
  omega
theorem d6o {l : List Pa} (h1 : l.length ≤ 100) (h2 : ∀ p ∈ l, p.sends.length ≤ 2 ∧ p.outs.length ≤ 2) : c1g l ≤ 500 := by
 have := b3q (sz := cPa) (k := 4) (l := l) fun p hp => by have := h2 p hp; simp only [cPa]; omega
 simp only [c1g]; omega
theorem a1y {n : Nd} (h : a8u n) : n.lanes.length ≤ 4 ∧ n.kept.length ≤ 100 ∧ n.outs.length ≤ 96 ∧ b5m n.lanes ≤ 2004 ∧ c0e n.views ≤ 303 ∧ cNd n ≤ 2606 := by
 obtain ⟨q1, q2, q3, q4, q5, q6, q7, q8, q9⟩ := h
 have hp := a6n n.id 4
 have hk := (a2l q2).1
 have ho := (a2l q3).1
 have hl : b5m n.lanes ≤ 2004 := by
  have := b3q (sz := cLa) (k := 500) (l := n.lanes) fun l hm => by
   obtain ⟨i, hi⟩ := List.getElem?_of_mem hm
   obtain ⟨g1, g2⟩ := a6b (q8 i l hi).2
   exact d6o g1 g2
  simp only [b5m]; omega
 have hv : c0e n.views ≤ 303 := by
  have := b3q (sz := cVi) (k := 100) (l := n.views) fun v hm => by
   obtain ⟨i, hi⟩ := List.getElem?_of_mem hm
   have hlt := (List.getElem?_eq_some_iff.1 hi).1
   obtain ⟨k, hk⟩ : ∃ k, n.known[i]? = some k := ⟨_, List.getElem?_eq_getElem (by omega)⟩
   have := (a2l (q9 i v k hi hk).1.2.2).1
   simp only [cVi]; omega
  simp only [c0e]; omega
 refine ⟨by omega, by omega, by omega, hl, hv, ?_⟩
 simp only [cNd]; omega
theorem c8g {n : Nd} (h : a8u n) : (a0l n).length + (a0i n 3).length ≤ 5000000 := by
 obtain ⟨q1, q2, q3, q4, q5, q6, q7, q8, q9⟩ := h
 have hp := a6n n.id 4
 have := c5n q2 (by omega) q8
 have := c1h q6 q7 q9
 omega

def a1h (l : La) (f t : Nat) : La := ⟨l.proc, l.base, (l.done.take t).drop f⟩
theorem b7z (l : La) : a1h l 0 l.done.length = l := by simp [a1h]
theorem d1g {α : Type} {l : List α} {f i t : Nat} (h1 : f ≤ i) (h2 : i = f ∨ (i ≤ t ∧ i ≤ l.length)) (h3 : ¬ (i < t ∧ i < l.length)) : (l.take i).drop f = (l.take t).drop f := by
 rcases h2 with rfl | ⟨h4, h5⟩
 ·rw [List.drop_of_length_le (by rw [List.length_take]; omega)]
  by_cases h : i < t
  ·rw [List.drop_of_length_le (by rw [List.length_take]; omega)]
  ·rw [List.drop_of_length_le (by rw [List.length_take]; omega)]
 ·by_cases h : i = t
  ·rw [h]
  ·rw [List.take_of_length_le (by omega), List.take_of_length_le (by omega)]

def lb (l : La) : Prop := l.done.length ≤ 1000000 ∧ ∀ p ∈ l.done, p.sends.length ≤ 1000000 ∧ p.outs.length ≤ 1000000
theorem e0c {l : La} (h : b4x l = true) : lb l := by
 obtain ⟨h1, h2⟩ := a6b h
 exact ⟨by omega, fun p hp => by have := h2 p hp; omega⟩
theorem d4y (n : Nd) : zNd n ≤ 20 * cNd n := by
 have e1 : ∀ l : List Ev, szs zEv l = 7 * l.length := fun l => by
  induction l with
  | nil => rfl
  | cons a r ih => simp only [szs, ih, List.length_cons, zEv]; omega
 have e2 : ∀ l : List Ou, szs zOu l = 5 * l.length := fun l => by
  induction l with
  | nil => rfl
  | cons a r ih => simp only [szs, ih, List.length_cons, zOu]; omega
 have e3 : ∀ l : List Int, szs zI l = l.length := fun l => by
  induction l with
  | nil => rfl
  | cons a r ih => simp only [szs, ih, List.length_cons, zI]; omega
 have e4 : ∀ l : List Pa, szs zPa l ≤ 10 * c1g l := fun l => by
  induction l with
  | nil => simp [szs, c1g]
  | cons a r ih => simp only [szs, c1g, List.length_cons, zPa, cPa, e1, e2] at ih ⊢; omega
 have e5 : ∀ l : List La, szs zLa l ≤ 20 * b5m l := fun l => by
  induction l with
  | nil => simp [szs, b5m]
  | cons a r ih => have := e4 a.done; simp only [szs, b5m, List.length_cons, zLa, cLa] at ih ⊢; omega
 have e6 : ∀ l : List Vi, szs zVi l ≤ 20 * c0e l := fun l => by
  induction l with
  | nil => simp [szs, c0e]
  | cons a r ih => simp only [szs, c0e, List.length_cons, zVi, cVi, e1] at ih ⊢; omega
 have := e5 n.lanes
 have := e6 n.views
 simp only [zNd, cNd, e1, e2, e3]; omega

def nb (n : Nd) : Prop := n.lanes.length ≤ 1000000 ∧ n.kept.length ≤ 1000000 ∧ n.outs.length ≤ 1000000 ∧ (∀ l ∈ n.lanes, lb l) ∧ n.views.length ≤ 1000000 ∧ (∀ v ∈ n.views, v.events.length ≤ 1000000) ∧ n.known.length ≤ 1000000
theorem d8o {n : Nd} (h : a8u n) : nb n := by
 have hb := a1y h
 obtain ⟨q1, q2, q3, q4, q5, q6, q7, q8, q9⟩ := h
 refine ⟨by omega, by omega, by omega, fun l hm => ?_, by omega, fun v hm => ?_, by omega⟩
 ·obtain ⟨i, hi⟩ := List.getElem?_of_mem hm
  exact e0c (q8 i l hi).2
 ·obtain ⟨i, hi⟩ := List.getElem?_of_mem hm
  have hlt := (List.getElem?_eq_some_iff.1 hi).1
  obtain ⟨k, hk⟩ : ∃ k, n.known[i]? = some k := ⟨_, List.getElem?_eq_getElem (by omega)⟩
  have := (a2l (q9 i v k hi hk).1.2.2).1
  omega
end
section
structure Wo where
 kind : Int
 from' : Int
 to : Int
 inc : Int
 version : Int
 round : Int
 g : Int
 incs : List Int
 versions : List Int
 events : List Ev
 outs : List Ou
 deriving DecidableEq, Inhabited
def wo0 : Wo := ⟨0, 0, 0, 0, 0, 0, 0, [], [], [], []⟩
def zWo (w : Wo) : Nat := 7 + szs zI w.incs + szs zI w.versions + szs zEv w.events + szs zOu w.outs
def kWo (k : Nat) (w : Wo) : Wo := ⟨(k : Int), (k + 1 : Nat), (k + 1 + 1 : Nat), (k + 1 + 1 + 1 : Nat), (k + 1 + 1 + 1 + 1 : Nat), (k + 1 + 1 + 1 + 1 + 1 : Nat), (k + 1 + 1 + 1 + 1 + 1 + 1 : Nat), mks zI kI (k + 7) w.incs, mks zI kI (k + 7 + szs zI w.incs) w.versions, mks zEv kEv (k + 7 + szs zI w.incs + szs zI w.versions) w.events, mks zOu kOu (k + 7 + szs zI w.incs + szs zI w.versions + szs zEv w.events) w.outs⟩

def zWl (w : Wo) : Nat := szs zI w.incs + szs zI w.versions + szs zEv w.events + szs zOu w.outs
def kWl (k : Nat) (w : Wo) : Wo := { w with incs := mks zI kI k w.incs, versions := mks zI kI (k + szs zI w.incs) w.versions, events := mks zEv kEv (k + szs zI w.incs + szs zI w.versions) w.events, outs := mks zOu kOu (k + szs zI w.incs + szs zI w.versions + szs zEv w.events) w.outs }
theorem d8p (l : List Ev) : szs zEv l = 7 * l.length := by
 induction l with
 | nil => rfl
 | cons a r ih => simp only [szs, ih, List.length_cons, zEv]; omega
def d6p (n : Nd) (to : Int) (e : Ev) : Bool := decide (s0s e.to = to ∧ n.known.getD to.toNat 0 ≤ e.time)
def a5n (to kn : Int) (e : Ev) : Bool := decide (s0s e.to = to ∧ kn ≤ e.time)
def a1s (n : Nd) (to : Int) : List Ev := s2s ((a0l n).filter (d6p n to))
theorem d3q {n : Nd} {t : Nat} {kn : Int} (h : n.known[t]? = some kn) : d6p n (t : Int) = a5n (t : Int) kn := by
 funext e
 unfold d6p a5n
 rw [Int.toNat_natCast, List.getD_eq_getElem?_getD, h]; rfl
theorem c4a {n : Nd} {t : Nat} {kn : Int} (h : n.known[t]? = some kn) : a1s n (t : Int) = s2s ((a0l n).filter (a5n (t : Int) kn)) := by
 unfold a1s; rw [d3q h]
def d8q (n : Nd) (to : Int) : Wo := ⟨1, n.id, to, n.inc, n.version, 0, n.g, [], [], a1s n to, []⟩
def e0d (n : Nd) : Wo := ⟨7, n.id, 0, 0, 0, 0, n.g, [], [], [], n.outs⟩
def c6x (n : Nd) : Nat → List Wo
 | 0 => []
 | k + 1 => if (k : Int) = n.id then c6x n k else c6x n k ++ [d8q n (k : Int)]
open Classical in
noncomputable def e2k (n : Nd) : List Wo := if a1r n ∧ n.up = true then (if n.id = 0 then c6x n 3 else c6x n 3 ++ [e0d n]) else []
end
section

def d8r (l : La) (s : List Ev) : Prop := a8k okE a2p s 100 = true ∧ ∀ e ∈ s, e.to = l.proc
def ev0 : Ev := ⟨0, 0, 0, 0, 0, 0, 0⟩

def d3r (l : La) (s : List Ev) : Ev × Bool := if same l.done s < l.done.length then (ev0, false) else match s[same l.done s]? with
 | some e => (e, true)
 | none => (ev0, false)
theorem c1i : ∀ (d : List Pa) (s : List Ev), same d s ≤ s.length ∧ same d s ≤ d.length
 | [], s => by cases s <;> simp [same]
 | _ :: _, [] => by simp [same]
 | p :: d, e :: s => by
  have := c1i d s
  simp only [same]
  split
  ·simp only [List.length_cons]; omega
  ·simp
open Classical in
noncomputable def e2l (l : La) (s : List Ev) : Ev × Bool := if b4x l = true ∧ d8r l s then d3r l s else (ev0, false)

def d3s (n : Nd) : Nat → Int
 | 0 => 41
 | k + 1 => match n.lanes[k]? with
  | some l => if (d3r l (a6u n l.proc)).2 = true ∧ (d3r l (a6u n l.proc)).1.time < d3s n k then (d3r l (a6u n l.proc)).1.time else d3s n k
  | none => d3s n k
def e0f (n : Nd) : Int := d3s n n.lanes.length
open Classical in
noncomputable def e0g (n : Nd) : Int := if a1r n then e0f n else 0
def e2m (n : Nd) (r : Int) : Wo := ⟨3, n.id, 0, n.inc, 0, r, e0f n, n.views.map Vi.inc, n.views.map Vi.version, [], []⟩
open Classical in
noncomputable def d7o (n : Nd) (r : Int) : Nd × Wo × Bool := if a1r n then (if n.up = true ∧ n.round + 1 ≤ r ∧ r ≤ 9999 then ({ n with round := r, low := 41 }, e2m n r, true) else (n, wo0, false)) else (nd0, wo0, false)
end
section
section
variable {α : Type} {lt : α → α → Bool}
end

def d8s (u : Int) : List Pa → Nat
 | [] => 0
 | p :: d => if p.ev.time < u then d8s u d + 1 else 0
def d4z (l : La) : Nat → St
 | 0 => l.base
 | k + 1 => match l.done[k]? with
  | some p => p.after
  | none => d4z l k

def d6q (u : Int) (l : La) : La := ⟨l.proc, d4z l (d8s u l.done), l.done.drop (d8s u l.done)⟩
def e0h (u : Int) (l : La) : List Ev := s2s ((l.done.take (d8s u l.done)).flatMap Pa.sends)
def e0i (u : Int) (l : La) : List Ou := d4s ((l.done.take (d8s u l.done)).flatMap Pa.outs)

def e2n (u : Int) (ls : List La) (i : Nat) : List La := (ls.take i).map (d6q u) ++ ls.drop i
def d8t (n : Nd) (g : Int) (i : Nat) : List Ev := n.kept ++ (n.lanes.take i).flatMap (e0h g)
def d8u (n : Nd) (g : Int) (i : Nat) : List Ou := n.outs ++ (n.lanes.take i).flatMap (e0i g)
def d9p (n : Nd) (g : Int) : List La := n.lanes.map (d6q g)

def e0j (kn : List Int) (e : Ev) : Bool := decide (kn.getD (s0s e.to).toNat 0 ≤ e.time)
def d6r (n : Nd) (g : Int) : Nd := { n with g := g, lanes := n.lanes.map (d6q g), kept := s2s ((d8t n g n.lanes.length).filter (e0j (n.known.set n.id.toNat g))), outs := d4s (d8u n g n.lanes.length), known := n.known.set n.id.toNat g }
def d8v (n : Nd) (r g : Int) : Prop := n.up = true ∧ 1 ≤ r ∧ r = n.round ∧ n.g + 1 ≤ g ∧ g ≤ 41 ∧ g ≤ n.low ∧ g ≤ e0f n ∧ n.version < 9999
open Classical in
noncomputable def s7s (n n' : Nd) : Nd × Bool := if a1r n' then (n', true) else (n, false)
theorem c4b {n n' : Nd} (h : a1r n') : s7s n n' = (n', true) := if_pos h
theorem c4d {n n' : Nd} (h : ¬ a1r n') : s7s n n' = (n, false) := if_neg h
open Classical in
noncomputable def d7p (n : Nd) (r g : Int) : Nd × Bool := if a1r n then (if d8v n r g then s7s n (d6r n g) else (n, false)) else (nd0, false)
theorem c4e {n n' : Nd} (h : a1r n) : cNd (s7s n n').1 ≤ 3000 := by
 unfold s7s
 split
 ·rename_i h2; have := a1y h2.1; show cNd n' ≤ 3000; omega
 ·have := a1y h.1; show cNd n ≤ 3000; omega
end
section

def wk (n : Nd) : Prop := n.lanes.length ≤ 4 ∧ n.kept.length ≤ 100 ∧ n.views.length = 3 ∧ n.known.length = 3 ∧ (∀ l ∈ n.lanes, l.done.length ≤ 100 ∧ ∀ p ∈ l.done, p.sends.length ≤ 2 ∧ p.outs.length ≤ 2) ∧ (∀ v ∈ n.views, v.events.length ≤ 100) ∧ (∀ (i : Nat) l, n.lanes[i]? = some l → (a1d n.id 4)[i]? = some l.proc)
theorem d3t {n : Nd} (h : a8u n) : wk n := by
 have hb := a1y h
 obtain ⟨q1, q2, q3, q4, q5, q6, q7, q8, q9⟩ := h
 refine ⟨by omega, by omega, q6, q7, fun l hm => ?_, fun v hm => ?_, fun i l hl => (q8 i l hl).1⟩
 ·obtain ⟨i, hi⟩ := List.getElem?_of_mem hm
  exact a6b (q8 i l hi).2
 ·obtain ⟨i, hi⟩ := List.getElem?_of_mem hm
  have hlt := (List.getElem?_eq_some_iff.1 hi).1
  obtain ⟨k, hk⟩ : ∃ k, n.known[i]? = some k := ⟨_, List.getElem?_eq_getElem (by omega)⟩
  have := (a2l (q9 i v k hi hk).1.2.2).1
  omega
theorem c1j {n : Nd} (h : wk n) : (a0l n).length ≤ 900 := by
 have := a4h (f := a7l) (k := 200) (l := n.lanes) fun l hl => by
  obtain ⟨h1, h2⟩ := h.2.2.2.2.1 l hl
  have := a4h (f := Pa.sends) (k := 2) (l := l.done) fun p hp => (h2 p hp).1
  simp only [a7l]; omega
 have h1 := h.1
 have h2 := h.2.1
 simp only [a0l, List.length_append]; omega
theorem d3u {n : Nd} (h : wk n) : (a0i n 3).length ≤ 300 := by
 have := a4h (f := a9m n) (k := 100) (l := List.range 3) fun j hj => by
  rw [List.mem_range] at hj
  unfold a9m
  split
  ·simp
  ·obtain ⟨v, hv⟩ : ∃ v, n.views[j]? = some v := ⟨_, List.getElem?_eq_getElem (by have := h.2.2.1; omega)⟩
   rw [List.getD_eq_getElem?_getD, hv]
   exact h.2.2.2.2.2.1 v (List.mem_of_getElem? hv)
 simpa [a0i] using this
theorem d1h {n : Nd} (h : wk n) : (a0l n).length + (a0i n 3).length ≤ 5000000 := by
 have := c1j h
 have := d3u h
 omega

def nl (n : Nd) (ls : List La) : Nd := { n with lanes := ls }
def keep (n : Nd) (ls : List La) (l : La) : Nat := same l.done (a6u (nl n ls) l.proc)
theorem d6s (n : Nd) (ls : List La) (l : La) : keep n ls l ≤ l.done.length := (c1i _ _).2
def b3r (n : Nd) (ls : List La) (i : Nat) : List La := match ls[i]? with
 | some l => if keep n ls l < l.done.length then ls.set i (a1h l 0 (keep n ls l)) else ls
 | none => ls
def d2h (n : Nd) (ls : List La) (i : Nat) : Bool := match ls[i]? with
 | some l => decide (keep n ls l < l.done.length)
 | none => false
theorem c5o {n : Nd} {ls : List La} {i : Nat} {l : La} (h : ls[i]? = some l) (h2 : keep n ls l < l.done.length) : b3r n ls i = ls.set i (a1h l 0 (keep n ls l)) ∧ d2h n ls i = true := by
 constructor
 ·show (match ls[i]? with | some l => _ | none => _) = _
  rw [h]; exact if_pos h2
 ·show (match ls[i]? with | some l => _ | none => _) = _
  rw [h]; exact decide_eq_true h2
theorem c5p {n : Nd} {ls : List La} {i : Nat} {l : La} (h : ls[i]? = some l) (h2 : ¬ keep n ls l < l.done.length) : b3r n ls i = ls ∧ d2h n ls i = false := by
 constructor
 ·show (match ls[i]? with | some l => _ | none => _) = _
  rw [h]; exact if_neg h2
 ·show (match ls[i]? with | some l => _ | none => _) = _
  rw [h]; exact decide_eq_false h2
theorem d6t {n : Nd} {ls : List La} {i : Nat} (h : ls[i]? = none) : b3r n ls i = ls ∧ d2h n ls i = false := by
 constructor
 ·show (match ls[i]? with | some l => _ | none => _) = _
  rw [h]
 ·show (match ls[i]? with | some l => _ | none => _) = _
  rw [h]
theorem a9z (n : Nd) (ls : List La) (i : Nat) : (b3r n ls i = ls ∧ d2h n ls i = false) ∨ ∃ l, ls[i]? = some l ∧ keep n ls l < l.done.length ∧ b3r n ls i = ls.set i (a1h l 0 (keep n ls l)) ∧ d2h n ls i = true := by
 cases h : ls[i]? with
 | none => exact .inl (d6t h)
 | some l =>
  by_cases h2 : keep n ls l < l.done.length
  ·exact .inr ⟨l, rfl, h2, c5o h h2⟩
  ·exact .inl (c5p h h2)
def c1k (ls : List La) : Nat := (ls.map fun l => l.done.length).sum
theorem d1i {α : Type} (f : α → Nat) : ∀ {l : List α} {i : Nat} {a b : α}, l[i]? = some a → ((l.set i b).map f).sum + f a = (l.map f).sum + f b
 | [], i, a, b, h => by simp at h
 | x :: r, 0, a, b, h => by
  simp at h; subst h
  simp only [List.set_cons_zero, List.map_cons, List.sum_cons]; omega
 | x :: r, i + 1, a, b, h => by
  have := d1i f (l := r) (i := i) (a := a) (b := b) (by simpa using h)
  simp only [List.set_cons_succ, List.map_cons, List.sum_cons]; omega
theorem d3v {l : La} {k : Nat} (h : k ≤ l.done.length) : (a1h l 0 k).done.length = k := by simp [a1h]; omega
theorem c8h (n : Nd) (ls : List La) (i : Nat) : c1k (b3r n ls i) ≤ c1k ls ∧ (d2h n ls i = true → c1k (b3r n ls i) < c1k ls) := by
 rcases a9z n ls i with ⟨h1, h2⟩ | ⟨l, h0, h3, h1, h2⟩
 ·rw [h1, h2]; exact ⟨Nat.le_refl _, fun h => by cases h⟩
 ·have := d1i (fun l => l.done.length) (b := a1h l 0 (keep n ls l)) h0
  have h4 := d3v (l := l) (k := keep n ls l) (by omega)
  simp only [h4] at this
  rw [h1]
  unfold c1k
  exact ⟨by omega, fun _ => by omega⟩
def a0r (n : Nd) (ls : List La) : Nat → List La
 | 0 => ls
 | i + 1 => b3r n (a0r n ls i) i
def a8v (n : Nd) (ls : List La) : Nat → Bool
 | 0 => false
 | i + 1 => a8v n ls i || d2h n (a0r n ls i) i
theorem b3s (n : Nd) (ls : List La) : ∀ i, c1k (a0r n ls i) ≤ c1k ls ∧ (a8v n ls i = true → c1k (a0r n ls i) < c1k ls)
 | 0 => ⟨Nat.le_refl _, fun h => by cases h⟩
 | i + 1 => by
  obtain ⟨h1, h2⟩ := b3s n ls i
  obtain ⟨h3, h4⟩ := c8h n (a0r n ls i) i
  refine ⟨Nat.le_trans h3 h1, fun h => ?_⟩
  have h : a8v n ls i = true ∨ d2h n (a0r n ls i) i = true := by simpa [a8v] using h
  show c1k (b3r n (a0r n ls i) i) < c1k ls
  rcases h with h | h
  ·exact Nat.lt_of_le_of_lt h3 (h2 h)
  ·exact Nat.lt_of_lt_of_le (h4 h) h1
theorem c4f (n : Nd) (ls : List La) : ∀ i, a8v n ls i = false → a0r n ls i = ls
 | 0, _ => rfl
 | i + 1, h => by
  have h : a8v n ls i = false ∧ d2h n (a0r n ls i) i = false := by simpa [a8v] using h
  show b3r n (a0r n ls i) i = ls
  rcases a9z n (a0r n ls i) i with ⟨h1, h2⟩ | ⟨l, h0, h3, h1, h2⟩
  ·rw [h1, c4f n ls i h.1]
  ·rw [h.2] at h2; cases h2
theorem d1j (n : Nd) (ls : List La) (i : Nat) : (b3r n ls i).length = ls.length := by
 rcases a9z n ls i with ⟨h1, h2⟩ | ⟨l, h0, h3, h1, h2⟩
 ·rw [h1]
 ·rw [h1, List.length_set]
theorem b3t (n : Nd) (ls : List La) : ∀ i, (a0r n ls i).length = ls.length
 | 0 => rfl
 | i + 1 => (d1j n (a0r n ls i) i).trans (b3t n ls i)
theorem c4g {β : Type} {f : La → β} (hf : ∀ l k, f (a1h l 0 k) = f l) (n : Nd) (ls : List La) (i : Nat) : (b3r n ls i).map f = ls.map f := by
 rcases a9z n ls i with ⟨h1, h2⟩ | ⟨l, h0, h3, h1, h2⟩
 ·rw [h1]
 ·rw [h1, List.map_set, hf]
  obtain ⟨h4, rfl⟩ := List.getElem?_eq_some_iff.1 h0
  apply List.ext_getElem?
  intro j
  rw [List.getElem?_set]
  by_cases e : i = j
  ·subst e; simp [h4]
  ·simp [e]

def q7q (n : Nd) (ls : List La) : List La := if h : a8v n ls ls.length = true then q7q n (a0r n ls ls.length) else ls
termination_by c1k ls
decreasing_by exact (b3s n ls ls.length).2 h
theorem c1l {n : Nd} {ls : List La} (h : a8v n ls ls.length = true) : q7q n (a0r n ls ls.length) = q7q n ls := by
 conv => rhs; unfold q7q
 rw [dif_pos h]
theorem c1m {n : Nd} {ls : List La} (h : a8v n ls ls.length = false) : a0r n ls ls.length = q7q n ls := by
 conv => rhs; unfold q7q
 rw [dif_neg (by rw [h]; decide)]
 exact c4f n ls _ h
theorem a8i (n : Nd) (ls : List La) (i : Nat) : a0r n ls (i + 1) = b3r n (a0r n ls i) i := rfl
theorem b0t (n : Nd) (ls : List La) (i : Nat) : a8v n ls (i + 1) = (a8v n ls i || d2h n (a0r n ls i) i) := rfl
theorem d1k (n : Nd) (ls : List La) (i : Nat) : 2 * c1k (a0r n ls i) + (a8v n ls i).toNat < 2 * c1k ls + 1 := by
 obtain ⟨h1, h2⟩ := b3s n ls i
 cases h : a8v n ls i with
 | false => show 2 * c1k (a0r n ls i) + 0 < _; omega
 | true => have := h2 h; show 2 * c1k (a0r n ls i) + 1 < _; omega
theorem d8w {n : Nd} {ls : List La} (h : wk (nl n ls)) {i : Nat} {l : La} {k : Nat} (hl : ls[i]? = some l) : wk (nl n (ls.set i (a1h l 0 k))) := by
 obtain ⟨h1, h2, h3, h4, h5, h6, h7⟩ := h
 refine ⟨by show (ls.set i _).length ≤ 4; rw [List.length_set]; exact h1, h2, h3, h4, fun m hm => ?_, h6, fun j m hm => ?_⟩
 ·rcases List.mem_or_eq_of_mem_set hm with hm | hm
  ·exact h5 m hm
  ·subst hm
   obtain ⟨g1, g2⟩ := h5 l (List.mem_of_getElem? hl)
   refine ⟨?_, fun p hp => g2 p ?_⟩
   ·simp only [a1h, List.drop_zero, List.length_take]; omega
   ·simp only [a1h, List.drop_zero] at hp
    exact List.mem_of_mem_take hp
 ·have hm2 : (ls.set i (a1h l 0 k))[j]? = some m := hm
  clear hm
  rw [List.getElem?_set] at hm2
  split at hm2
  ·rename_i e
   subst e
   split at hm2
   ·cases hm2
    show (a1d n.id 4)[i]? = some l.proc
    exact h7 i l hl
   ·cases hm2
  ·exact h7 j m hm2
theorem d6u {n : Nd} {ls : List La} (h : wk (nl n ls)) (i : Nat) : wk (nl n (b3r n ls i)) := by
 rcases a9z n ls i with ⟨h1, h2⟩ | ⟨l, h0, h3, h1, h2⟩
 ·rw [h1]; exact h
 ·rw [h1]; exact d8w h h0
theorem b2f {n : Nd} {ls : List La} (h : wk (nl n ls)) : ∀ i, wk (nl n (a0r n ls i))
 | 0 => h
 | i + 1 => d6u (b2f h i) i
theorem c1n {n : Nd} : ∀ (k : Nat) {ls : List La}, c1k ls ≤ k → wk (nl n ls) → wk (nl n (q7q n ls))
 | k, ls, hk, h => by
  cases hm : a8v n ls ls.length with
  | false => rw [← c1m hm]; exact b2f h _
  | true =>
   have hd := (b3s n ls ls.length).2 hm
   rw [← c1l hm]
   cases k with
   | zero => omega
   | succ k => exact c1n k (by omega) (b2f h _)

def a0k (n : Nd) : Nat → List (List Ev)
 | 0 => []
 | k + 1 => if (k : Int) = n.id then a0k n k else a0k n k ++ [a1s n (k : Int)]
theorem c1o {n : Nd} {k : Nat} (h : ¬ (k : Int) = n.id) : a0k n (k + 1) = a0k n k ++ [a1s n (k : Int)] := if_neg h
theorem c1p {n : Nd} {k : Nat} (h : (k : Int) = n.id) : a0k n (k + 1) = a0k n k := if_pos h
theorem c4h (n : Nd) : ∀ k, (a0k n k).length ≤ k
 | 0 => Nat.le_refl _
 | k + 1 => by
  have := c4h n k
  unfold a0k
  split
  ·omega
  ·simp; omega
theorem c0h {a b : Nd} (h : a.id = b.id) : ∀ k, (a0k a k).length = (a0k b k).length
 | 0 => rfl
 | k + 1 => by
  have := c0h h k
  unfold a0k
  rw [h]
  split
  ·exact this
  ·simp only [List.length_append, this, List.length_cons, List.length_nil]
theorem b8a {a b : Nd} (h : a.id = b.id) {k : Nat} (hk : ¬ (k : Int) = b.id) : a0k a (k + 1) = a0k b (k + 1) ↔ a0k a k = a0k b k ∧ a1s a (k : Int) = a1s b (k : Int) := by
 rw [c1o hk, c1o (by rw [h]; exact hk)]
 constructor
 ·intro e
  obtain ⟨e1, e2⟩ := List.append_inj e (c0h h k)
  exact ⟨e1, (List.cons.inj e2).1⟩
 ·rintro ⟨e1, e2⟩; rw [e1, e2]
def a3b (was n : Nd) (k : Nat) : Int := if a0k was k = a0k n k then n.version else was.version + 1
theorem d6v {was n : Nd} (h : was.id = n.id) {k : Nat} (hk : ¬ (k : Int) = n.id) (hd : ¬ a1s was (k : Int) = a1s n (k : Int)) : a3b was n (k + 1) = was.version + 1 := if_neg fun e => hd ((b8a h hk).1 e).2
theorem d1l {was n : Nd} (h : was.id = n.id) {k : Nat} (hd : (k : Int) = n.id ∨ a1s was (k : Int) = a1s n (k : Int)) : a3b was n (k + 1) = a3b was n k := by
 unfold a3b
 by_cases hk : (k : Int) = n.id
 ·rw [c1p hk, c1p (by rw [h]; exact hk)]
 ·have e : a0k was (k + 1) = a0k n (k + 1) ↔ a0k was k = a0k n k := by
   rw [b8a h hk]
   rcases hd with hd | hd
   ·exact absurd hd hk
   ·exact ⟨fun q => q.1, fun q => ⟨q, hd⟩⟩
  by_cases q : a0k was k = a0k n k
  ·rw [if_pos q, if_pos (e.2 q)]
  ·rw [if_neg q, if_neg (fun z => q (e.1 z))]

def chg (g : Int) (o : List Ev) (m : Int) : List Ev → Int
 | [] => m
 | e :: r => chg g o (if g ≤ e.time ∧ e.time < m ∧ ¬ e ∈ o then e.time else m) r
theorem b4y (g : Int) (o : List Ev) : ∀ (l : List Ev) (m x : Int), m ≤ x → chg g o m l = min m (chg g o x l)
 | [], m, x, h => by simp only [chg]; omega
 | e :: r, m, x, h => by
  simp only [chg]
  by_cases h1 : g ≤ e.time ∧ ¬ e ∈ o
  ·by_cases h2 : e.time < m
   ·rw [if_pos ⟨h1.1, h2, h1.2⟩, if_pos ⟨h1.1, by omega, h1.2⟩]
    have := b4y g o r e.time e.time (Int.le_refl _)
    omega
   ·rw [if_neg (fun q => h2 q.2.1)]
    by_cases h3 : e.time < x
    ·rw [if_pos ⟨h1.1, h3, h1.2⟩]; exact b4y g o r m e.time (by omega)
    ·rw [if_neg (fun q => h3 q.2.1)]; exact b4y g o r m x h
  ·rw [if_neg (fun q => h1 ⟨q.1, q.2.2⟩), if_neg (fun q => h1 ⟨q.1, q.2.2⟩)]; exact b4y g o r m x h
theorem d1m (g : Int) (o : List Ev) : ∀ (l : List Ev) (m : Int), chg g o m l ≤ m
 | [], m => Int.le_refl m
 | e :: r, m => by
  simp only [chg]
  split
  ·rename_i h; exact Int.le_trans (d1m g o r e.time) (by omega)
  ·exact d1m g o r m
theorem b6i (g : Int) (a b : List Ev) {m : Int} (h : m ≤ 41) : chg g a (chg g b m a) b = min m (chg g a (chg g b 41 a) b) := by
 have h1 := b4y g b a m 41 h
 have h2 := b4y g a b (chg g b m a) (chg g b 41 a) (by omega)
 have h3 := d1m g a b (chg g b 41 a)
 omega
theorem a5o {g : Int} {o : List Ev} : ∀ {l : List Ev} {m : Int} {i : Nat} {e : Ev}, l[i]? = some e → chg g o m (l.take (i + 1)) = (if g ≤ e.time ∧ e.time < chg g o m (l.take i) ∧ ¬ e ∈ o then e.time else chg g o m (l.take i))
 | [], m, i, e, h => by simp at h
 | x :: r, m, 0, e, h => by simp at h; subst h; simp [chg]
 | x :: r, m, i + 1, e, h => by
  simp only [List.take_succ_cons, chg]
  exact a5o (l := r) (by simpa using h)
def swK {α : Type} (a b : α) (k : Nat) : α := if k = 1 then b else a
def d2i (g : Int) (a b : List Ev) : Nat → Int
 | 0 => 41
 | 1 => chg g b 41 a
 | _ => chg g a (chg g b 41 a) b
theorem d1n {g : Int} {a b : List Ev} {k : Nat} (h : k < 2) : d2i g a b (k + 1) = chg g (swK b a k) (d2i g a b k) (swK a b k) := by
 have : k = 0 ∨ k = 1 := by omega
 rcases this with rfl | rfl <;> rfl
theorem c6y {α : Type} {a b : α} {k : Nat} (h : k < 2) : swK a b (k + 1) = swK b a k := by
 have : k = 0 ∨ k = 1 := by omega
 rcases this with rfl | rfl <;> rfl
end
section
def c8o (x : Ev) : List Ev → Int
 | [] => -1
 | a :: r => if x = a then 0 else (if c8o x r < 0 then -1 else c8o x r + 1)
theorem c5q {x : Ev} : ∀ {l : List Ev}, ¬ x ∈ l → c8o x l = -1
 | [], _ => rfl
 | a :: r, h => by
  rw [List.mem_cons, not_or] at h
  unfold c8o
  rw [if_neg h.1, c5q h.2]; rfl
theorem d1o {x : Ev} : ∀ {l : List Ev} {i : Nat}, l[i]? = some x → ¬ x ∈ l.take i → c8o x l = (i : Int)
 | [], i, h, _ => by simp at h
 | a :: r, 0, h, _ => by simp at h; unfold c8o; rw [if_pos h.symm]; rfl
 | a :: r, i + 1, h, h2 => by
  rw [List.take_succ_cons, List.mem_cons, not_or] at h2
  unfold c8o
  rw [if_neg h2.1, d1o (l := r) (i := i) (by simpa using h) h2.2, if_neg (by omega)]
  omega
theorem d3w (x : Ev) (l : List Ev) : decide (0 ≤ c8o x l) = decide (x ∈ l) := by
 by_cases h : x ∈ l
 ·have : ∀ l : List Ev, x ∈ l → 0 ≤ c8o x l := by
   intro l
   induction l with
   | nil => intro h; cases h
   | cons a r ih =>
    intro h
    unfold c8o
    by_cases e : x = a
    ·rw [if_pos e]; exact Int.le_refl 0
    ·rw [if_neg e]
     have := ih ((List.mem_cons.1 h).resolve_left e)
     rw [if_neg (by omega)]; omega
  rw [decide_eq_true h, decide_eq_true (this l h)]
 ·rw [c5q h, decide_eq_false h]; rfl
def a0h (n : Nd) (f inc ver g : Int) (es : List Ev) : Prop := n.up = true ∧ n.version < 9999 ∧ (0 ≤ f ∧ f ≤ 2) ∧ ¬ f = n.id ∧ (1 ≤ inc ∧ inc ≤ 9999) ∧ (0 ≤ ver ∧ ver ≤ 9999) ∧ (0 ≤ g ∧ g ≤ 41) ∧ a8k okE a2p es 100 = true ∧ ∀ e ∈ es, s0s e.to = n.id ∧ (e.from' = -1 ∨ s0s e.from' = f)

def b4z (v : Vi) (inc ver : Int) : Prop := v.inc < inc ∨ (inc = v.inc ∧ v.version < ver)
instance (v : Vi) (inc ver : Int) : Decidable (b4z v inc ver) := by unfold b4z; infer_instance
def b3u (n : Nd) (f : Nat) (inc ver g : Int) (es : List Ev) : Nd :=
 let old := n.views.getD f vi0
 let m : Nd := { n with known := n.known.set f (max (n.known.getD f 0) g) }
 if b4z old inc ver then { m with low := chg n.g old.events (chg n.g es n.low old.events) es, views := n.views.set f ⟨inc, ver, es⟩ } else m
def b8c (n m : Nd) : Nd := { nl m (q7q m m.lanes) with version := a3b n (nl m (q7q m m.lanes)) 3 }
open Classical in
noncomputable def p3p (n : Nd) (f inc ver g : Int) (es : List Ev) : Nd := if a1r n then (if a0h n f inc ver g es then (s7s n (b8c n (b3u n f.toNat inc ver g es))).1 else n) else nd0
theorem d5a {n : Nd} {f inc ver g : Int} {es : List Ev} (h : ¬ a1r n) : p3p n f inc ver g es = nd0 := if_neg h
theorem b1f {n : Nd} {f inc ver g : Int} {es : List Ev} (h : a1r n) (h2 : ¬ a0h n f inc ver g es) : p3p n f inc ver g es = n := by unfold p3p; rw [if_pos h, if_neg h2]
theorem d1p {n : Nd} {f : Nat} {inc ver g : Int} {es : List Ev} (h : a1r n) (h2 : a0h n (f : Int) inc ver g es) : p3p n (f : Int) inc ver g es = (s7s n (b8c n (b3u n f inc ver g es))).1 := by
 unfold p3p; rw [if_pos h, if_pos h2]; rfl
theorem c8i (n : Nd) (f inc ver g : Int) (es : List Ev) : cNd (p3p n f inc ver g es) ≤ 3000 := by
 unfold p3p
 split
 ·rename_i h
  split
  ·exact c4e h
  ·have := a1y h.1; omega
 ·show cNd nd0 ≤ 3000; decide
theorem s8s {n : Nd} {f : Nat} {inc ver g k : Int} {es : List Ev} {v : Vi} (hv : n.views[f]? = some v) (hk : n.known[f]? = some k) (h : b4z v inc ver) : b3u n f inc ver g es = { n with known := n.known.set f (max k g), low := chg n.g v.events (chg n.g es n.low v.events) es, views := n.views.set f ⟨inc, ver, es⟩ } := by
 have e1 : n.views.getD f vi0 = v := by rw [List.getD_eq_getElem?_getD, hv]; rfl
 have e2 : n.known.getD f 0 = k := by rw [List.getD_eq_getElem?_getD, hk]; rfl
 unfold b3u
 simp only [e1, e2]
 rw [if_pos h]
theorem a1m {n : Nd} {f : Nat} {inc ver g k : Int} {es : List Ev} {v : Vi} (hv : n.views[f]? = some v) (hk : n.known[f]? = some k) (h : ¬ b4z v inc ver) : b3u n f inc ver g es = { n with known := n.known.set f (max k g) } := by
 have e1 : n.views.getD f vi0 = v := by rw [List.getD_eq_getElem?_getD, hv]; rfl
 have e2 : n.known.getD f 0 = k := by rw [List.getD_eq_getElem?_getD, hk]; rfl
 unfold b3u
 simp only [e1, e2]
 rw [if_neg h]
theorem d1q {n m : Nd} (h : wk n) (h1 : m.lanes = n.lanes) (h2 : m.kept = n.kept) (h3 : m.views.length = 3) (h4 : m.known.length = 3) (h5 : ∀ v ∈ m.views, v.events.length ≤ 100) (h6 : m.id = n.id) : wk m := by
 obtain ⟨q1, q2, q3, q4, q5, q6, q7⟩ := h
 exact ⟨by rw [h1]; exact q1, by rw [h2]; exact q2, h3, h4, by rw [h1]; exact q5, h5, by rw [h1, h6]; exact q7⟩
theorem c6z {n : Nd} {f : Nat} {inc ver g : Int} {es : List Ev} (h : wk n) (hes : es.length ≤ 100) : wk (b3u n f inc ver g es) := by
 have hk : (n.known.set f (max (n.known.getD f 0) g)).length = 3 := by rw [List.length_set]; exact h.2.2.2.1
 unfold b3u
 dsimp only
 split
 ·refine d1q h rfl rfl (by show (n.views.set f _).length = 3; rw [List.length_set]; exact h.2.2.1) hk (fun v hv => ?_) rfl
  rcases List.mem_or_eq_of_mem_set hv with hv | hv
  ·exact h.2.2.2.2.2.1 v hv
  ·subst hv; exact hes
 ·exact d1q h rfl rfl h.2.2.1 hk h.2.2.2.2.2.1 rfl
theorem c7a (n : Nd) (f : Nat) (inc ver g : Int) (es : List Ev) : (b3u n f inc ver g es).id = n.id ∧ (b3u n f inc ver g es).version = n.version ∧ (b3u n f inc ver g es).lanes = n.lanes := by
 unfold b3u
 dsimp only
 split <;> exact ⟨rfl, rfl, rfl⟩
end
section
def a2h (p : Int) : List AV := [.pv (.int .i64 p)]
def e2o (p : Nat) : List AV := [.pv (.int .u8 (p : Int))]
def v9v (e : Ev) : List AV := (evN e).map pI
def a0y (o : Ou) : List AV := (ouL o).map pI
def s9s (s : St) : List AV := (stL s).map pI
theorem d6w (a b : Ev) : (evN a == evN b) = decide (a = b) := by
 rw [Bool.eq_iff_iff]
 cases a; cases b
 simp [evN]
theorem d6x (x y : Operand) (a b : Ev) : EqA Tryz.prog 76 x y (.agg (v9v a)) (.agg (v9v b)) (decide (a = b)) := by
 rw [← d6w]; exact d2v Tryz.underlying76 (by kernel_rfl) (by kernel_rfl) (by kernel_rfl) x y (evN a) (evN b) rfl rfl
def a4r (c : Bool) (l : List Int) : AV := .row (.rd c) 3 1 (l.map a2h)
def e0z (c : Bool) (l : List Nat) : AV := .row (.rd c) 5 1 (l.map e2o)
def r7r (c : Bool) (l : List Ev) : AV := .row (.rd c) 76 7 (l.map v9v)
def a1j (c : Bool) (l : List Ou) : AV := .row (.rd c) 104 5 (l.map a0y)
def a0s (c : Bool) (p : Pa) : List AV := v9v p.ev ++ (s9s p.after ++ [r7r c p.sends, a1j c p.outs])
def a3p (c : Bool) (l : List Pa) : AV := .row (.rd c) 78 12 (l.map (a0s c))
def a0v (c : Bool) (a : La) : List AV := pI a.proc :: (s9s a.base ++ [a3p c a.done])
def c1q (c : Bool) (l : List La) : AV := .row (.rd c) 65 5 (l.map (a0v c))
def a1n (c : Bool) (v : Vi) : List AV := [pI v.inc, pI v.version, r7r c v.events]
def c1r (c : Bool) (l : List Vi) : AV := .row (.rd c) 141 3 (l.map (a1n c))
def a1i (c : Bool) (n : Nd) : List AV := [pI n.id, .pv (.bool n.up), pI n.inc, pI n.g, c1q c n.lanes, r7r c n.kept, a1j c n.outs, pI n.led, pI n.version, c1r c n.views, a4r c n.known, pI n.round, pI n.low]
def a2z (p : Pa) : List AV := v9v p.ev ++ (s9s p.after ++ [.row .ow 76 7 (p.sends.map v9v), .row .ow 104 5 (p.outs.map a0y)])
def a1t (a : La) : List AV := pI a.proc :: (s9s a.base ++ [.row .ow 78 12 (a.done.map a2z)])
def a1u (v : Vi) : List AV := [pI v.inc, pI v.version, .row .ow 76 7 (v.events.map v9v)]
def c7b : List AV := [pI 0, pI 0, .pv (.slice none 0 0)]
theorem c8j {k c : Bool} (hc : c = true → k = true) (p : Pa) : LeL k (a2z p) (a0s c p) :=
 .cons (.cl rfl) (.cons (.cl rfl) (.cons (.cl rfl) (.cons (.cl rfl) (.cons (.cl rfl) (.cons (.cl rfl) (.cons (.cl rfl) (.cons (.cl rfl) (.cons (.cl rfl) (.cons (.cl rfl) (.cons (Le.ow_map _ hc (fun _ => rfl)) (.cons (Le.ow_map _ hc (fun _ => rfl)) .nil)))))))))))
theorem c8k {k c : Bool} (hc : c = true → k = true) (a : La) : LeL k (a1t a) (a0v c a) :=
 .cons (.cl rfl) (.cons (.cl rfl) (.cons (.cl rfl) (.cons (.cl rfl) (.cons (Le.ow_map2 _ hc (c8j hc)) .nil))))
theorem c8l {k c : Bool} (hc : c = true → k = true) (v : Vi) : LeL k (a1u v) (a1n c v) := .cons (.cl rfl) (.cons (.cl rfl) (.cons (Le.ow_map _ hc (fun _ => rfl)) .nil))
theorem nf {k : Bool} : false = true → k = true := fun h => by cases h
theorem LendL.cls {h : Hp} : ∀ {cs : List AV}, (cs.all AV.cl) = true → LendL h cs cs []
 | [], _ => .nil
 | a :: cs, hc => by rw [List.all_cons, Bool.and_eq_true] at hc; exact .cl hc.1 (LendL.cls hc.2)
theorem d6y {h : Hp} {cs ls bs : List AV} {T : TL} (h1 : (cs.all AV.one) = true) (hc : (cs.all AV.cl) = true) (t : LendL h ls bs T) : LendL h (.agg cs :: ls) (.agg cs :: bs) T := .agg h1 (.cls hc) t
theorem b1g {h : Hp} {n : Nd} {i0 i1 i2 i3 i4 g0 g1 g2 g3 g4 : Nat} {ls bs : List AV} {T : TL} (h0 : v1v h i0 = some (g0, .row 65 5 (n.lanes.map a1t))) (h1 : v1v h i1 = some (g1, .row 76 7 (n.kept.map v9v))) (h2 : v1v h i2 = some (g2, .row 104 5 (n.outs.map a0y))) (h3 : v1v h i3 = some (g3, .row 141 3 (n.views.map a1u))) (h4 : v1v h i4 = some (g4, .row 3 1 (n.known.map a2h))) (t : LendL h ls bs T) :
  LendL h (.agg [pI n.id, .pv (.bool n.up), pI n.inc, pI n.g, .ref i0 g0, .ref i1 g1, .ref i2 g2, pI n.led, pI n.version, .ref i3 g3, .ref i4 g4, pI n.round, pI n.low] :: ls) (.agg (a1i false n) :: bs)
   ([(i0, (g0, .row 65 5 (n.lanes.map a1t))), (i1, (g1, .row 76 7 (n.kept.map v9v))), (i2, (g2, .row 104 5 (n.outs.map a0y))), (i3, (g3, .row 141 3 (n.views.map a1u))), (i4, (g4, .row 3 1 (n.known.map a2h)))] ++ T) :=
 .agg rfl (.cl rfl (.cl rfl (.cl rfl (.cl rfl (.ref h0 (Le.ow_map2 _ nf (c8k nf)) (.ref h1 (Le.ow_map _ nf (fun _ => rfl)) (.ref h2 (Le.ow_map _ nf (fun _ => rfl)) (.cl rfl (.cl rfl (.ref h3 (Le.ow_map2 _ nf (c8l nf)) (.ref h4 (Le.ow_map _ nf (fun _ => rfl)) (.cl rfl (.cl rfl .nil))))))))))))) t
theorem d5b {h : Hp} {p : Pa} {i j g g' : Nat} (h1 : v1v h i = some (g, .row 76 7 (p.sends.map v9v))) (h2 : v1v ((i, (g, .dead)) :: h) j = some (g', .row 104 5 (p.outs.map a0y))) (hne : Nat.beq i j = false) :
  Abs [pI p.ev.time, pI p.ev.to, pI p.ev.from', pI p.ev.count, pI p.ev.n, pI p.ev.kind, pI p.ev.arg, pI p.after.x, pI p.after.y, pI p.after.count, .ref i g, .ref j g'] h (a2z p)
   [(i, (g, .row 76 7 (p.sends.map v9v))), (j, (g', .row 104 5 (p.outs.map a0y)))] [(i, (g, .dead)), (j, (g', .dead))] := by
 have hne' : i ≠ j := fun e => by subst e; rw [Nat.beq_refl] at hne; cases hne
 exact .val rfl rfl (.val rfl rfl (.val rfl rfl (.val rfl rfl (.val rfl rfl (.val rfl rfl (.val rfl rfl (.val rfl rfl (.val rfl rfl (.val rfl rfl
  (.ref h1 (u6u fun _ => rfl) (.ref h2 (u6u fun _ => rfl) .nil rfl rfl) (by rw [q8q, if_neg (Ne.symm hne')]; rfl) (by simp [Ne.symm hne'])))))))))))
theorem d5c {h : Hp} {a : La} {i g : Nat} (h1 : v1v h i = some (g, .row 78 12 (a.done.map a2z))) :
  Abs [pI a.proc, pI a.base.x, pI a.base.y, pI a.base.count, .ref i g] h (a1t a) [(i, (g, .row 78 12 (a.done.map a2z)))] [(i, (g, .dead))] :=
 .val rfl rfl (.val rfl rfl (.val rfl rfl (.val rfl rfl (.ref h1 (u6u fun _ => rfl) .nil rfl rfl))))
theorem d5e {h : Hp} {v : Vi} {i g : Nat} (h1 : v1v h i = some (g, .row 76 7 (v.events.map v9v))) :
  Abs [pI v.inc, pI v.version, .ref i g] h (a1u v) [(i, (g, .row 76 7 (v.events.map v9v)))] [(i, (g, .dead))] :=
 .val rfl rfl (.val rfl rfl (.ref h1 (u6u fun _ => rfl) .nil rfl rfl))
theorem d3x {α : Type} [DecidableEq α] {l l' : List α} (h : ¬ l.length = l'.length) : [AV.pv (.bool false)] = [AV.pv (.bool (decide (l = l')))] := by
 rw [decide_eq_false (fun e => h (by rw [e]))]
theorem d3y {α : Type} [DecidableEq α] {l l' : List α} {i : Nat} {x y : α} (hx : l[i]? = some x) (hy : l'[i]? = some y) (h : ¬ x = y) : [AV.pv (.bool false)] = [AV.pv (.bool (decide (l = l')))] := by
 rw [decide_eq_false (fun e => h (by subst e; rw [hx] at hy; exact Option.some.inj hy))]
theorem eqT {α : Type} [DecidableEq α] {l l' : List α} {i : Nat} (h : l.take i = l'.take i) (h1 : l.length ≤ i) (h2 : l'.length ≤ i) : [AV.pv (.bool true)] = [AV.pv (.bool (decide (l = l')))] := by
 rw [List.take_of_length_le h1, List.take_of_length_le h2] at h
 rw [decide_eq_true h]
theorem a3y {α : Type} {l l' : List α} {i : Nat} {x y : α} (h : l.take i = l'.take i) (hx : l[i]? = some x) (hy : l'[i]? = some y) (e : x = y) : l.take (i + 1) = l'.take (i + 1) := by
 subst e
 rw [List.take_add_one, List.take_add_one, h, hx, hy]
def d1r (p : Int) : List AV := [pI p, pI 0, pI 0, pI 0, .pv (.slice none 0 0)]
theorem d1s (p : Int) : LeL true (d1r p) (a0v true (d0y p)) := .cons (.cl rfl) (.cons (.cl rfl) (.cons (.cl rfl) (.cons (.cl rfl) (.cons .nil .nil))))
theorem kF {p : Prop} [Decidable p] (h : ¬ p) : [AV.pv (.bool false)] = [AV.pv (.bool (decide p))] := by rw [decide_eq_false h]
theorem kT {p : Prop} [Decidable p] (h : p) : [AV.pv (.bool true)] = [AV.pv (.bool (decide p))] := by rw [decide_eq_true h]
theorem b2g {α β : Type} {f : α → β} {l : List α} {i : Nat} {x : α} (hx : l[i]? = some x) : (l.map f)[i]? = some (f x) := by simp [hx]
theorem evF : FindK Tryz.prog 179 (fun k => b8q (evN k)) := by
 obtain ⟨i, h1, _⟩ := (x9x _ _ y9y).info
 exact c7q Tryz.underlying179 h1 (by kernel_rfl) Tryz.underlying3 (fun _ => rfl) (fun _ _ h => d0x h)
theorem d6z {k : Bool} (e : Ev) : LeL k (v9v e) (v9v e) := .cons (.cl rfl) (.cons (.cl rfl) (.cons (.cl rfl) (.cons (.cl rfl) (.cons (.cl rfl) (.cons (.cl rfl) (.cons (.cl rfl) .nil))))))
theorem d7a {k : Bool} (e : Ou) : LeL k (a0y e) (a0y e) := .cons (.cl rfl) (.cons (.cl rfl) (.cons (.cl rfl) (.cons (.cl rfl) (.cons (.cl rfl) .nil))))
theorem c5r {k c c' : Bool} (hc : c' = true → c = true) (l : List Ev) : Le k (r7r c l) (r7r c' l) := Le.rd_map l hc d6z (fun _ => rfl)
theorem d1t {k c c' : Bool} (hc : c' = true → c = true) (l : List Ou) : Le k (a1j c l) (a1j c' l) := Le.rd_map l hc d7a (fun _ => rfl)
theorem d1u {k c c' : Bool} (hc : c' = true → c = true) (p : Pa) : LeL k (a0s c p) (a0s c' p) :=
 .cons (.cl rfl) (.cons (.cl rfl) (.cons (.cl rfl) (.cons (.cl rfl) (.cons (.cl rfl) (.cons (.cl rfl) (.cons (.cl rfl) (.cons (.cl rfl) (.cons (.cl rfl) (.cons (.cl rfl) (.cons (c5r hc _) (.cons (d1t hc _) .nil)))))))))))
theorem d7b {k c c' : Bool} (hc : c' = true → c = true) (l : List Pa) : Le k (a3p c l) (a3p c' l) := Le.rd_map l hc (d1u hc) (fun _ => rfl)
theorem d1v {k c c' : Bool} (hc : c' = true → c = true) (a : La) : LeL k (a0v c a) (a0v c' a) := .cons (.cl rfl) (.cons (.cl rfl) (.cons (.cl rfl) (.cons (.cl rfl) (.cons (d7b hc _) .nil))))
theorem d1w {k c c' : Bool} (hc : c' = true → c = true) (v : Vi) : LeL k (a1n c v) (a1n c' v) := .cons (.cl rfl) (.cons (.cl rfl) (.cons (c5r hc _) .nil))
theorem nfc {c : Bool} : false = true → c = true := fun h => by cases h

theorem c1s {h : Hp} {c : Bool} {n : Nd} {i0 i3 i4 g0 g3 g4 : Nat} {ls bs : List AV} {T : TL} (h0 : v1v h i0 = some (g0, .row 65 5 (n.lanes.map (a0v c)))) (h3 : v1v h i3 = some (g3, .row 141 3 (n.views.map (a1n c)))) (h4 : v1v h i4 = some (g4, .row 3 1 (n.known.map a2h))) (t : LendL h ls bs T) :
  LendL h (.agg [pI n.id, .pv (.bool n.up), pI n.inc, pI n.g, .ref i0 g0, r7r c n.kept, a1j c n.outs, pI n.led, pI n.version, .ref i3 g3, .ref i4 g4, pI n.round, pI n.low] :: ls) (.agg (a1i false n) :: bs)
   ([(i0, (g0, .row 65 5 (n.lanes.map (a0v c)))), (i3, (g3, .row 141 3 (n.views.map (a1n c)))), (i4, (g4, .row 3 1 (n.known.map a2h)))] ++ T) :=
 .agg rfl (.cl rfl (.cl rfl (.cl rfl (.cl rfl (.ref h0 (Le.ow_map2 _ nf (d1v nfc)) (.le rfl (c5r nfc _) (.le rfl (d1t nfc _) (.cl rfl (.cl rfl (.ref h3 (Le.ow_map2 _ nf (d1w nfc)) (.ref h4 (Le.ow_map _ nf (fun _ => rfl)) (.cl rfl (.cl rfl .nil))))))))))))) t
theorem d7c (e : Ev) : StrC (v9v e) := StrC.ints (evN e)
theorem d8x (e : Ou) : StrC (a0y e) := StrC.ints (ouL e)
theorem e2p (e : Int) : StrC (a2h e) := .cons (.pv _) rfl .nil
theorem d8y (p : Pa) : StrC (a2z p) := (StrC.ints (evN p.ev)).append ((StrC.ints (stL p.after)).append (.own (StrC.map d7c _) (.own (StrC.map d8x _) .nil)))
theorem d8z (a : La) : StrC (a1t a) := .cons (.pv _) rfl ((StrC.ints (stL a.base)).append (.own (StrC.map d8y _) .nil))
theorem d9a (v : Vi) : StrC (a1u v) := .cons (.pv _) rfl (.cons (.pv _) rfl (.own (StrC.map d7c _) .nil))
theorem d7e {n : Nd} {i0 i1 i2 i3 i4 g0 g1 g2 g3 g4 : Nat} {r : Hp} (t : StrH r) : StrH ((i0, (g0, .row 65 5 (n.lanes.map a1t))) :: (i1, (g1, .row 76 7 (n.kept.map v9v))) :: (i2, (g2, .row 104 5 (n.outs.map a0y))) :: (i3, (g3, .row 141 3 (n.views.map a1u))) :: (i4, (g4, .row 3 1 (n.known.map a2h))) :: r) :=
 .row (StrC.map d8z _) (.row (StrC.map d7c _) (.row (StrC.map d8x _) (.row (StrC.map d9a _) (.row (StrC.map e2p _) t))))

theorem b8d {h : Hp} {n : Nd} {i0 i3 i4 g0 g3 g4 : Nat} (h0 : v1v h i0 = some (g0, .row 65 5 (n.lanes.map (a0v true)))) (h3 : v1v ((i0, (g0, .dead)) :: h) i3 = some (g3, .row 141 3 (n.views.map (a1n true)))) (h4 : v1v ((i3, (g3, .dead)) :: (i0, (g0, .dead)) :: h) i4 = some (g4, .row 3 1 (n.known.map a2h))) :
  FinL h [.agg [pI n.id, .pv (.bool n.up), pI n.inc, pI n.g, .ref i0 g0, r7r true n.kept, a1j true n.outs, pI n.led, pI n.version, .ref i3 g3, .ref i4 g4, pI n.round, pI n.low]] [.agg (a1i true n)] ((i4, (g4, .dead)) :: (i3, (g3, .dead)) :: (i0, (g0, .dead)) :: h) :=
 .agg rfl (.cl rfl (.cl rfl (.cl rfl (.cl rfl (.ref h0 (Le.ow_map _ (fun _ => rfl) (fun _ => rfl)) (.cl rfl (.cl rfl (.cl rfl (.cl rfl (.ref h3 (Le.ow_map _ (fun _ => rfl) (fun _ => rfl)) (.ref h4 (Le.ow_map _ (fun _ => rfl) (fun _ => rfl)) (.cl rfl (.cl rfl .nil))))))))))))) .nil
theorem d9b {h : Hp} : FinL h [.agg [pI 0, .pv (.bool false), pI 0, pI 0, .pv (.slice none 0 0), .pv (.slice none 0 0), .pv (.slice none 0 0), pI 0, pI 0, .pv (.slice none 0 0), .pv (.slice none 0 0), pI 0, pI 0]] [.agg (a1i true nd0)] h :=
 .agg rfl (.cl rfl (.cl rfl (.cl rfl (.cl rfl (.le rfl .nil (.le rfl .nil (.le rfl .nil (.cl rfl (.cl rfl (.le rfl .nil (.le rfl .nil (.cl rfl (.cl rfl .nil))))))))))))) .nil
theorem e0k {a b : List AV} (h : ∀ y ∈ a, Strict y) (k : ∀ y ∈ b, Strict y) : ∀ y ∈ a ++ b, Strict y := fun y hy => by
 rcases List.mem_append.1 hy with hy | hy
 ·exact h y hy
 ·exact k y hy
theorem a7m {a : AV} {b : List AV} (h : Strict a) (k : ∀ y ∈ b, Strict y) : ∀ y ∈ a :: b, Strict y := fun y hy => by
 rcases List.mem_cons.1 hy with rfl | hy
 ·exact h
 ·exact k y hy
theorem d9c : ∀ y ∈ ([] : List AV), Strict y := fun y hy => by cases hy
theorem d1x (l : List Int) : ∀ y ∈ l.map pI, Strict y := fun y hy => by
 obtain ⟨n, _, rfl⟩ := List.mem_map.1 hy
 exact .pv _
theorem b0a (l : List Ev) : Strict (r7r true l) := a5y fun e => d1x (evN e)
theorem c4i (l : List Ou) : Strict (a1j true l) := a5y fun e => d1x (ouL e)
theorem c8m (l : List Int) : Strict (a4r true l) := a5y fun e => a7m (.pv _) d9c
theorem sPa (p : Pa) : ∀ y ∈ a0s true p, Strict y := e0k (d1x (evN p.ev)) (e0k (d1x (stL p.after)) (a7m (b0a _) (a7m (c4i _) d9c)))
theorem d1y (l : List Pa) : Strict (a3p true l) := a5y sPa
theorem sLa (a : La) : ∀ y ∈ a0v true a, Strict y := a7m (.pv _) (e0k (d1x (stL a.base)) (a7m (d1y _) d9c))
theorem d1z (l : List La) : Strict (c1q true l) := a5y sLa
theorem sVi (v : Vi) : ∀ y ∈ a1n true v, Strict y := a7m (.pv _) (a7m (.pv _) (a7m (b0a _) d9c))
theorem d2a (l : List Vi) : Strict (c1r true l) := a5y sVi
theorem d3z (n : Nd) : Strict (.agg (a1i true n)) :=
 .agg (a7m (.pv _) (a7m (.pv _) (a7m (.pv _) (a7m (.pv _) (a7m (d1z _) (a7m (b0a _) (a7m (c4i _) (a7m (.pv _) (a7m (.pv _) (a7m (d2a _) (a7m (c8m _) (a7m (.pv _) (a7m (.pv _) d9c)))))))))))))
def e0l (c : Bool) (w : Wo) : List AV := [pI w.kind, pI w.from', pI w.to, pI w.inc, pI w.version, pI w.round, pI w.g, a4r c w.incs, a4r c w.versions, r7r c w.events, a1j c w.outs]
def d5f (c : Bool) (l : List Wo) : AV := .row (.rd c) 52 11 (l.map (e0l c))
def e1a (w : Wo) : List AV := [pI w.kind, pI w.from', pI w.to, pI w.inc, pI w.version, pI w.round, pI w.g, .row .ow 3 1 (w.incs.map a2h), .row .ow 3 1 (w.versions.map a2h), .row .ow 76 7 (w.events.map v9v), .row .ow 104 5 (w.outs.map a0y)]
theorem z9z : (∀ ρ g c l, inB ρ g (a4r c l) = a4r c l) ∧ (∀ ρ g c l, inC ρ g (a4r c l) = a4r c l) ∧ (∀ ρ g c l, inA ρ g (a4r c l) = a4r c l) ∧ (∀ ρ g c l, inT ρ g (a4r c l) = a4r c l) ∧ (∀ ρ g c l, inB ρ g (r7r c l) = r7r c l) ∧ (∀ ρ g c l, inC ρ g (r7r c l) = r7r c l) ∧ (∀ ρ g c l, inA ρ g (r7r c l) = r7r c l) ∧ (∀ ρ g c l, inT ρ g (r7r c l) = r7r c l) ∧ (∀ ρ g c l, inB ρ g (a1j c l) = a1j c l) ∧ (∀ ρ g c l, inC ρ g (a1j c l) = a1j c l) ∧ (∀ ρ g c l, inA ρ g (a1j c l) = a1j c l) ∧ (∀ ρ g c l, inT ρ g (a1j c l) = a1j c l) ∧ (∀ ρ g c l, inB ρ g (a3p c l) = a3p c l) ∧ (∀ ρ g c l, inC ρ g (a3p c l) = a3p c l) ∧ (∀ ρ g c l, inA ρ g (a3p c l) = a3p c l) ∧ (∀ ρ g c l, inT ρ g (a3p c l) = a3p c l) ∧ (∀ ρ g c l, inB ρ g (c1q c l) = c1q c l) ∧ (∀ ρ g c l, inC ρ g (c1q c l) = c1q c l) ∧ (∀ ρ g c l, inA ρ g (c1q c l) = c1q c l) ∧ (∀ ρ g c l, inT ρ g (c1q c l) = c1q c l) ∧ (∀ ρ g c l, inB ρ g (c1r c l) = c1r c l) ∧ (∀ ρ g c l, inC ρ g (c1r c l) = c1r c l) ∧ (∀ ρ g c l, inA ρ g (c1r c l) = c1r c l) ∧ (∀ ρ g c l, inT ρ g (c1r c l) = c1r c l) ∧ (∀ ρ g c l, inB ρ g (d5f c l) = d5f c l) ∧ (∀ ρ g c l, inC ρ g (d5f c l) = d5f c l) ∧ (∀ ρ g c l, inA ρ g (d5f c l) = d5f c l) ∧ (∀ ρ g c l, inT ρ g (d5f c l) = d5f c l) := by
 refine ⟨?_, ?_, ?_, ?_, ?_, ?_, ?_, ?_, ?_, ?_, ?_, ?_, ?_, ?_, ?_, ?_, ?_, ?_, ?_, ?_, ?_, ?_, ?_, ?_, ?_, ?_, ?_, ?_⟩ <;> intros <;> rfl
theorem b8e {h : Hp} {l : List Ev} {i g : Nat} {ls bs : List AV} {T : TL} (h0 : v1v h i = some (g, .row 76 7 (l.map v9v))) (t : LendL h ls bs T) : LendL h (.ref i g :: ls) (r7r false l :: bs) ((i, (g, .row 76 7 (l.map v9v))) :: T) := .ref h0 (Le.ow_map _ nf (fun _ => rfl)) t
end
section
theorem b8f (l : List Int) (k : Nat) (hk : k + szs zI l ≤ 1000000000) : Meth Tryz.prog 20 1 [0] [.ref 0 0, .pv (.int .i64 (k : Int))] [(0, (0, .row 3 1 (l.map a2h)))] (.pv (.int .i64 ((k + szs zI l : Nat) : Int))) [(0, (0, .row 3 1 ((mks zI kI k l).map a2h)))] := by
 refine u7u x9x (fn := Tryz.f20) (by kernel_rfl) (by kernel_rfl) rfl (O0 := [.pv (.int .i64 ((k + szs zI l : Nat) : Int))]) 1 0 (v7v rfl) (by rfl) (by repeat (first | exact BndH.nil | refine BndH.row (u6u fun _ => rfl) ?_)) (by repeat (first | exact BndH.nil | refine BndH.row (u6u fun _ => rfl) ?_)) (by rfl) fun γ => ?_
 show Ex Tryz.prog _ _ [(0, .ref 0 (γ 0)), (1, .pv (.int .i64 (k : Int)))] [(0, ((γ 0), .row 3 1 (l.map a2h)))] _
 have hml := a4x zI kI k l
 have hll := a4y zI (fun p => by unfold zI; omega) l
 refine x6x x9x (by rfl) ?_
 refine x2x rfl ?_
 refine x7x fun K1 hK1 => ?_
 refine x6x x9x (by rfl) ?_
 refine x2x rfl ?_
 refine y6y ?_
 refine u5u (ι := Nat) (fun i γ1 => [(1, .pv (.int .i64 ((k + szs zI (l.take i) : Nat) : Int))), (5, .pv (.int .i64 (i : Int)))]) (fun i γ1 => [(0, ((γ 0), .row 3 1 (((mks zI kI k l).take i).map a2h ++ (l.drop i).map a2h)))]) (fun i => i ≤ l.length) (fun i => l.length - i) (x4x 0 rfl Cov.nil) HE.nil 0 (by omega) [] (Cov.cons' (t := 1) rfl (by rw [List.take_zero]; rfl) (x4x 5 rfl Cov.nil)) (HE.row rfl (by rw [List.take_zero, List.drop_zero]; rfl) HE.nil) rfl fun i γ1 hi => ?_
 try dsimp only [List.cons_append, List.nil_append]
 refine x7x fun K2 hK2 => ?_
 refine x6x x9x (by rfl) ?_
 refine x1x rfl ?_
 refine x1x rfl ?_
 refine a1v (n := l.length) rfl p4p rfl rfl (by rw [List.length_append, List.length_map, List.length_map, List.length_take, List.length_drop]; omega) ?_
 refine y4y rfl rfl rfl ?_
 refine y0y rfl (fun hc3 => ?_) (fun hc3 => ?_)
 rotate_left
 ·try simp at hc3
  obtain rfl : i = l.length := by omega
  refine v0v ?_
  refine hK1 _ _ ?_
  clear hK2 K2 hK1 K1
  refine x6x x9x (by rfl) ?_
  refine x1x rfl ?_
  refine x2x rfl ?_
  refine y3y ?_
  exact ⟨.inr rfl, [γ 0], rfl, congrArg (fun v : Nat => some [AV.pv (.int .i64 (v : Int))]) (by rw [List.take_length]), HE.row rfl (by rw [List.take_of_length_le (by omega), List.drop_length, List.map_nil, List.append_nil]) HE.nil⟩
 try simp at hc3
 obtain ⟨p, hp⟩ : ∃ p, l[i]? = some p := w5w (by omega)
 have hmk := a4z zI kI (k := k) hp
 have hat := a3f zI hp
 have hzp : zI p = 1 := rfl
 have hAl : (((mks zI kI k l).take i).map a2h).length = i := by rw [List.length_map, List.length_take]; omega
 rw [r1r hp, List.map_cons]
 rw [show a2h p = [pI p] from rfl]
 obtain ⟨q, hq⟩ : ∃ q, q = k + szs zI (l.take i) := ⟨_, rfl⟩
 rw [← hq] at hmk ⊢
 refine y1y ?_
 refine hK2 _ _ ?_
 clear hK2 K2
 refine x7x fun K4 hK4 => ?_
 refine y6y ?_
 refine x6x x9x (by rfl) ?_
 refine x1x rfl ?_
 refine x1x rfl ?_
 refine x1x rfl ?_
 refine r0r rfl rfl p4p rfl y9y rfl rfl hAl ?_
 refine q2q hAl rfl rfl y9y rfl rfl rfl rfl rfl rfl rfl (by simp only [a0p]; rfl) ?_
 refine y2y x9x (by rfl) ?_
 refine x1x rfl ?_
 refine u1u (b := 1) rfl rfl (by omega) ?_
 refine x2x rfl ?_
 refine hK4 _ _ ?_
 clear hK4 K4
 refine y2y x9x (by rfl) ?_
 refine x1x rfl ?_
 refine u1u (b := 1) rfl rfl (by omega) ?_
 refine x2x rfl ?_
 exact ⟨i + 1, ⟨by omega, by omega⟩, [], (Cov.cons' (t := 1) rfl (by rw [a0u zI hp]; exact congrArg (fun v : Nat => AV.pv (.int .i64 (v : Int))) (by omega)) (x4x 5 rfl Cov.nil)), (x4x 0 rfl Cov.nil), (HE.row rfl (by rw [p2p hmk, List.map_append, List.append_assoc]; rfl) HE.nil), HE.nil, rfl⟩
theorem a2y (l : List Ev) (k : Nat) (hk : k + szs zEv l ≤ 1000000000) : Meth Tryz.prog 56 1 [0] [.ref 0 0, .pv (.int .i64 (k : Int))] [(0, (0, .row 76 7 (l.map v9v)))] (.pv (.int .i64 ((k + szs zEv l : Nat) : Int))) [(0, (0, .row 76 7 ((mks zEv kEv k l).map v9v)))] := by
 refine u7u x9x (fn := Tryz.f56) (by kernel_rfl) (by kernel_rfl) rfl (O0 := [.pv (.int .i64 ((k + szs zEv l : Nat) : Int))]) 1 0 (v7v rfl) (by rfl) (by repeat (first | exact BndH.nil | refine BndH.row (u6u fun _ => rfl) ?_)) (by repeat (first | exact BndH.nil | refine BndH.row (u6u fun _ => rfl) ?_)) (by rfl) fun γ => ?_
 show Ex Tryz.prog _ _ [(0, .ref 0 (γ 0)), (1, .pv (.int .i64 (k : Int)))] [(0, ((γ 0), .row 76 7 (l.map v9v)))] _
 have hml := a4x zEv kEv k l
 have hll := a4y zEv (fun p => by unfold zEv; omega) l
 refine x6x x9x (by rfl) ?_
 refine x2x rfl ?_
 refine x7x fun K1 hK1 => ?_
 refine x6x x9x (by rfl) ?_
 refine x2x rfl ?_
 refine y6y ?_
 refine u5u (ι := Nat) (fun i γ1 => [(1, .pv (.int .i64 ((k + szs zEv (l.take i) : Nat) : Int))), (5, .pv (.int .i64 (i : Int)))]) (fun i γ1 => [(0, ((γ 0), .row 76 7 (((mks zEv kEv k l).take i).map v9v ++ (l.drop i).map v9v)))]) (fun i => i ≤ l.length) (fun i => l.length - i) (x4x 0 rfl Cov.nil) HE.nil 0 (by omega) [] (Cov.cons' (t := 1) rfl (by rw [List.take_zero]; rfl) (x4x 5 rfl Cov.nil)) (HE.row rfl (by rw [List.take_zero, List.drop_zero]; rfl) HE.nil) rfl fun i γ1 hi => ?_
 try dsimp only [List.cons_append, List.nil_append]
 refine x7x fun K2 hK2 => ?_
 refine x6x x9x (by rfl) ?_
 refine x1x rfl ?_
 refine x1x rfl ?_
 refine a1v (n := l.length) rfl u4u rfl rfl (by rw [List.length_append, List.length_map, List.length_map, List.length_take, List.length_drop]; omega) ?_
 refine y4y rfl rfl rfl ?_
 refine y0y rfl (fun hc3 => ?_) (fun hc3 => ?_)
 rotate_left
 ·try simp at hc3
  obtain rfl : i = l.length := by omega
  refine v0v ?_
  refine hK1 _ _ ?_
  clear hK2 K2 hK1 K1
  refine x6x x9x (by rfl) ?_
  refine x1x rfl ?_
  refine x2x rfl ?_
  refine y3y ?_
  exact ⟨.inr rfl, [γ 0], rfl, congrArg (fun v : Nat => some [AV.pv (.int .i64 (v : Int))]) (by rw [List.take_length]), HE.row rfl (by rw [List.take_of_length_le (by omega), List.drop_length, List.map_nil, List.append_nil]) HE.nil⟩
 try simp at hc3
 obtain ⟨p, hp⟩ : ∃ p, l[i]? = some p := w5w (by omega)
 have hmk := a4z zEv kEv (k := k) hp
 have hat := a3f zEv hp
 have hzp : zEv p = 7 := rfl
 have hAl : (((mks zEv kEv k l).take i).map v9v).length = i := by rw [List.length_map, List.length_take]; omega
 rw [r1r hp, List.map_cons]
 rw [show v9v p = [pI p.time, pI p.to, pI p.from', pI p.count, pI p.n, pI p.kind, pI p.arg] from rfl]
 obtain ⟨q, hq⟩ : ∃ q, q = k + szs zEv (l.take i) := ⟨_, rfl⟩
 rw [← hq] at hmk ⊢
 refine y1y ?_
 refine hK2 _ _ ?_
 clear hK2 K2
 refine x7x fun K4 hK4 => ?_
 refine y6y ?_
 refine x6x x9x (by rfl) ?_
 refine x1x rfl ?_
 refine x1x rfl ?_
 refine x1x rfl ?_
 refine r0r rfl rfl u4u rfl z3z rfl rfl hAl ?_
 refine x0x rfl z3z rfl rfl y9y rfl rfl ?_
 refine q2q hAl rfl rfl y9y rfl rfl rfl rfl rfl rfl rfl (by simp only [a0p]; rfl) ?_
 refine x6x x9x (by rfl) ?_
 refine x1x rfl ?_
 refine u1u (b := 1) rfl rfl (by omega) ?_
 refine x2x rfl ?_
 refine x6x x9x (by rfl) ?_
 refine x1x rfl ?_
 refine x1x rfl ?_
 refine x1x rfl ?_
 refine r0r rfl rfl u4u rfl z3z rfl rfl hAl ?_
 refine x0x rfl z3z rfl rfl y9y rfl rfl ?_
 refine q2q hAl rfl rfl y9y rfl rfl rfl rfl rfl rfl rfl (by simp only [a0p]; rfl) ?_
 refine x6x x9x (by rfl) ?_
 refine x1x rfl ?_
 refine u1u (b := 1) rfl rfl (by omega) ?_
 refine x2x rfl ?_
 refine x6x x9x (by rfl) ?_
 refine x1x rfl ?_
 refine x1x rfl ?_
 refine x1x rfl ?_
 refine r0r rfl rfl u4u rfl z3z rfl rfl hAl ?_
 refine x0x rfl z3z rfl rfl y9y rfl rfl ?_
 refine q2q hAl rfl rfl y9y rfl rfl rfl rfl rfl rfl rfl (by simp only [a0p]; rfl) ?_
 refine x6x x9x (by rfl) ?_
 refine x1x rfl ?_
 refine u1u (b := 1) rfl rfl (by omega) ?_
 refine x2x rfl ?_
 refine x6x x9x (by rfl) ?_
 refine x1x rfl ?_
 refine x1x rfl ?_
 refine x1x rfl ?_
 refine r0r rfl rfl u4u rfl z3z rfl rfl hAl ?_
 refine x0x rfl z3z rfl rfl y9y rfl rfl ?_
 refine q2q hAl rfl rfl y9y rfl rfl rfl rfl rfl rfl rfl (by simp only [a0p]; rfl) ?_
 refine x6x x9x (by rfl) ?_
 refine x1x rfl ?_
 refine u1u (b := 1) rfl rfl (by omega) ?_
 refine x2x rfl ?_
 refine x6x x9x (by rfl) ?_
 refine x1x rfl ?_
 refine x1x rfl ?_
 refine x1x rfl ?_
 refine r0r rfl rfl u4u rfl z3z rfl rfl hAl ?_
 refine x0x rfl z3z rfl rfl y9y rfl rfl ?_
 refine q2q hAl rfl rfl y9y rfl rfl rfl rfl rfl rfl rfl (by simp only [a0p]; rfl) ?_
 refine x6x x9x (by rfl) ?_
 refine x1x rfl ?_
 refine u1u (b := 1) rfl rfl (by omega) ?_
 refine x2x rfl ?_
 refine x6x x9x (by rfl) ?_
 refine x1x rfl ?_
 refine x1x rfl ?_
 refine x1x rfl ?_
 refine r0r rfl rfl u4u rfl z3z rfl rfl hAl ?_
 refine x0x rfl z3z rfl rfl y9y rfl rfl ?_
 refine q2q hAl rfl rfl y9y rfl rfl rfl rfl rfl rfl rfl (by simp only [a0p]; rfl) ?_
 refine x6x x9x (by rfl) ?_
 refine x1x rfl ?_
 refine u1u (b := 1) rfl rfl (by omega) ?_
 refine x2x rfl ?_
 refine x6x x9x (by rfl) ?_
 refine x1x rfl ?_
 refine x1x rfl ?_
 refine x1x rfl ?_
 refine r0r rfl rfl u4u rfl z3z rfl rfl hAl ?_
 refine x0x rfl z3z rfl rfl y9y rfl rfl ?_
 refine q2q hAl rfl rfl y9y rfl rfl rfl rfl rfl rfl rfl (by simp only [a0p]; rfl) ?_
 refine y2y x9x (by rfl) ?_
 refine x1x rfl ?_
 refine u1u (b := 1) rfl rfl (by omega) ?_
 refine x2x rfl ?_
 refine hK4 _ _ ?_
 clear hK4 K4
 refine y2y x9x (by rfl) ?_
 refine x1x rfl ?_
 refine u1u (b := 1) rfl rfl (by omega) ?_
 refine x2x rfl ?_
 exact ⟨i + 1, ⟨by omega, by omega⟩, [], (Cov.cons' (t := 1) rfl (by rw [a0u zEv hp]; exact congrArg (fun v : Nat => AV.pv (.int .i64 (v : Int))) (by omega)) (x4x 5 rfl Cov.nil)), (x4x 0 rfl Cov.nil), (HE.row rfl (by rw [p2p hmk, List.map_append, List.append_assoc]; rfl) HE.nil), HE.nil, rfl⟩
theorem b0c (l : List Ou) (k : Nat) (hk : k + szs zOu l ≤ 1000000000) : Meth Tryz.prog 88 1 [0] [.ref 0 0, .pv (.int .i64 (k : Int))] [(0, (0, .row 104 5 (l.map a0y)))] (.pv (.int .i64 ((k + szs zOu l : Nat) : Int))) [(0, (0, .row 104 5 ((mks zOu kOu k l).map a0y)))] := by
 refine u7u x9x (fn := Tryz.f88) (by kernel_rfl) (by kernel_rfl) rfl (O0 := [.pv (.int .i64 ((k + szs zOu l : Nat) : Int))]) 1 0 (v7v rfl) (by rfl) (by repeat (first | exact BndH.nil | refine BndH.row (u6u fun _ => rfl) ?_)) (by repeat (first | exact BndH.nil | refine BndH.row (u6u fun _ => rfl) ?_)) (by rfl) fun γ => ?_
 show Ex Tryz.prog _ _ [(0, .ref 0 (γ 0)), (1, .pv (.int .i64 (k : Int)))] [(0, ((γ 0), .row 104 5 (l.map a0y)))] _
 have hml := a4x zOu kOu k l
 have hll := a4y zOu (fun p => by unfold zOu; omega) l
 refine x6x x9x (by rfl) ?_
 refine x2x rfl ?_
 refine x7x fun K1 hK1 => ?_
 refine x6x x9x (by rfl) ?_
 refine x2x rfl ?_
 refine y6y ?_
 refine u5u (ι := Nat) (fun i γ1 => [(1, .pv (.int .i64 ((k + szs zOu (l.take i) : Nat) : Int))), (5, .pv (.int .i64 (i : Int)))]) (fun i γ1 => [(0, ((γ 0), .row 104 5 (((mks zOu kOu k l).take i).map a0y ++ (l.drop i).map a0y)))]) (fun i => i ≤ l.length) (fun i => l.length - i) (x4x 0 rfl Cov.nil) HE.nil 0 (by omega) [] (Cov.cons' (t := 1) rfl (by rw [List.take_zero]; rfl) (x4x 5 rfl Cov.nil)) (HE.row rfl (by rw [List.take_zero, List.drop_zero]; rfl) HE.nil) rfl fun i γ1 hi => ?_
 try dsimp only [List.cons_append, List.nil_append]
 refine x7x fun K2 hK2 => ?_
 refine x6x x9x (by rfl) ?_
 refine x1x rfl ?_
 refine x1x rfl ?_
 refine a1v (n := l.length) rfl p9p rfl rfl (by rw [List.length_append, List.length_map, List.length_map, List.length_take, List.length_drop]; omega) ?_
 refine y4y rfl rfl rfl ?_
 refine y0y rfl (fun hc3 => ?_) (fun hc3 => ?_)
 rotate_left
 ·try simp at hc3
  obtain rfl : i = l.length := by omega
  refine v0v ?_
  refine hK1 _ _ ?_
  clear hK2 K2 hK1 K1
  refine x6x x9x (by rfl) ?_
  refine x1x rfl ?_
  refine x2x rfl ?_
  refine y3y ?_
  exact ⟨.inr rfl, [γ 0], rfl, congrArg (fun v : Nat => some [AV.pv (.int .i64 (v : Int))]) (by rw [List.take_length]), HE.row rfl (by rw [List.take_of_length_le (by omega), List.drop_length, List.map_nil, List.append_nil]) HE.nil⟩
 try simp at hc3
 obtain ⟨p, hp⟩ : ∃ p, l[i]? = some p := w5w (by omega)
 have hmk := a4z zOu kOu (k := k) hp
 have hat := a3f zOu hp
 have hzp : zOu p = 5 := rfl
 have hAl : (((mks zOu kOu k l).take i).map a0y).length = i := by rw [List.length_map, List.length_take]; omega
 rw [r1r hp, List.map_cons]
 rw [show a0y p = [pI p.time, pI p.proc, pI p.count, pI p.n, pI p.value] from rfl]
 obtain ⟨q, hq⟩ : ∃ q, q = k + szs zOu (l.take i) := ⟨_, rfl⟩
 rw [← hq] at hmk ⊢
 refine y1y ?_
 refine hK2 _ _ ?_
 clear hK2 K2
 refine x7x fun K4 hK4 => ?_
 refine y6y ?_
 refine x6x x9x (by rfl) ?_
 refine x1x rfl ?_
 refine x1x rfl ?_
 refine x1x rfl ?_
 refine r0r rfl rfl p9p rfl v5v rfl rfl hAl ?_
 refine x0x rfl v5v rfl rfl y9y rfl rfl ?_
 refine q2q hAl rfl rfl y9y rfl rfl rfl rfl rfl rfl rfl (by simp only [a0p]; rfl) ?_
 refine x6x x9x (by rfl) ?_
 refine x1x rfl ?_
 refine u1u (b := 1) rfl rfl (by omega) ?_
 refine x2x rfl ?_
 refine x6x x9x (by rfl) ?_
 refine x1x rfl ?_
 refine x1x rfl ?_
 refine x1x rfl ?_
 refine r0r rfl rfl p9p rfl v5v rfl rfl hAl ?_
 refine x0x rfl v5v rfl rfl y9y rfl rfl ?_
 refine q2q hAl rfl rfl y9y rfl rfl rfl rfl rfl rfl rfl (by simp only [a0p]; rfl) ?_
 refine x6x x9x (by rfl) ?_
 refine x1x rfl ?_
 refine u1u (b := 1) rfl rfl (by omega) ?_
 refine x2x rfl ?_
 refine x6x x9x (by rfl) ?_
 refine x1x rfl ?_
 refine x1x rfl ?_
 refine x1x rfl ?_
 refine r0r rfl rfl p9p rfl v5v rfl rfl hAl ?_
 refine x0x rfl v5v rfl rfl y9y rfl rfl ?_
 refine q2q hAl rfl rfl y9y rfl rfl rfl rfl rfl rfl rfl (by simp only [a0p]; rfl) ?_
 refine x6x x9x (by rfl) ?_
 refine x1x rfl ?_
 refine u1u (b := 1) rfl rfl (by omega) ?_
 refine x2x rfl ?_
 refine x6x x9x (by rfl) ?_
 refine x1x rfl ?_
 refine x1x rfl ?_
 refine x1x rfl ?_
 refine r0r rfl rfl p9p rfl v5v rfl rfl hAl ?_
 refine x0x rfl v5v rfl rfl y9y rfl rfl ?_
 refine q2q hAl rfl rfl y9y rfl rfl rfl rfl rfl rfl rfl (by simp only [a0p]; rfl) ?_
 refine x6x x9x (by rfl) ?_
 refine x1x rfl ?_
 refine u1u (b := 1) rfl rfl (by omega) ?_
 refine x2x rfl ?_
 refine x6x x9x (by rfl) ?_
 refine x1x rfl ?_
 refine x1x rfl ?_
 refine x1x rfl ?_
 refine r0r rfl rfl p9p rfl v5v rfl rfl hAl ?_
 refine x0x rfl v5v rfl rfl y9y rfl rfl ?_
 refine q2q hAl rfl rfl y9y rfl rfl rfl rfl rfl rfl rfl (by simp only [a0p]; rfl) ?_
 refine y2y x9x (by rfl) ?_
 refine x1x rfl ?_
 refine u1u (b := 1) rfl rfl (by omega) ?_
 refine x2x rfl ?_
 refine hK4 _ _ ?_
 clear hK4 K4
 refine y2y x9x (by rfl) ?_
 refine x1x rfl ?_
 refine u1u (b := 1) rfl rfl (by omega) ?_
 refine x2x rfl ?_
 exact ⟨i + 1, ⟨by omega, by omega⟩, [], (Cov.cons' (t := 1) rfl (by rw [a0u zOu hp]; exact congrArg (fun v : Nat => AV.pv (.int .i64 (v : Int))) (by omega)) (x4x 5 rfl Cov.nil)), (x4x 0 rfl Cov.nil), (HE.row rfl (by rw [p2p hmk, List.map_append, List.append_assoc]; rfl) HE.nil), HE.nil, rfl⟩
theorem b5r (l : List Pa) (k : Nat) (hk : k + szs zPa l ≤ 1000000000) : Meth Tryz.prog 179 1 [0] [.ref 0 0, .pv (.int .i64 (k : Int))] [(0, (0, .row 78 12 (l.map a2z)))] (.pv (.int .i64 ((k + szs zPa l : Nat) : Int))) [(0, (0, .row 78 12 ((mks zPa kPa k l).map a2z)))] := by
 refine u7u x9x (fn := Tryz.f179) (by kernel_rfl) (by kernel_rfl) rfl (O0 := [.pv (.int .i64 ((k + szs zPa l : Nat) : Int))]) 1 1 (v7v rfl) (by rfl) (by repeat (first | exact BndH.nil | refine BndH.row (u6u fun _ => rfl) ?_)) (by repeat (first | exact BndH.nil | refine BndH.row (u6u fun _ => rfl) ?_)) (by rfl) fun γ => ?_
 show Ex Tryz.prog _ _ [(0, .ref 0 (γ 0)), (1, .pv (.int .i64 (k : Int)))] [(0, ((γ 0), .row 78 12 (l.map a2z))), (1, (0, .dead))] _
 have hml := a4x zPa kPa k l
 have hll := a4y zPa (fun p => by unfold zPa; omega) l
 refine x6x x9x (by rfl) ?_
 refine x2x rfl ?_
 refine x7x fun K1 hK1 => ?_
 refine x6x x9x (by rfl) ?_
 refine x2x rfl ?_
 refine y6y ?_
 refine u5u (ι := Nat) (fun i γ1 => [(1, .pv (.int .i64 ((k + szs zPa (l.take i) : Nat) : Int))), (5, .pv (.int .i64 (i : Int)))]) (fun i γ1 => [(1, ((γ1 1), .dead)), (0, ((γ 0), .row 78 12 (((mks zPa kPa k l).take i).map a2z ++ (l.drop i).map a2z)))]) (fun i => i ≤ l.length) (fun i => l.length - i) (x4x 0 rfl Cov.nil) HE.nil 0 (by omega) [0, _] (Cov.cons' (t := 1) rfl (by rw [List.take_zero]; rfl) (x4x 5 rfl Cov.nil)) (HE.kill rfl (HE.row rfl (by rw [List.take_zero, List.drop_zero]; rfl) HE.nil)) rfl fun i γ1 hi => ?_
 try dsimp only [List.cons_append, List.nil_append]
 refine x7x fun K2 hK2 => ?_
 refine x6x x9x (by rfl) ?_
 refine x1x rfl ?_
 refine x1x rfl ?_
 refine a1v (n := l.length) rfl w0w rfl rfl (by rw [List.length_append, List.length_map, List.length_map, List.length_take, List.length_drop]; omega) ?_
 refine y4y rfl rfl rfl ?_
 refine y0y rfl (fun hc3 => ?_) (fun hc3 => ?_)
 rotate_left
 ·try simp at hc3
  obtain rfl : i = l.length := by omega
  refine v0v ?_
  refine hK1 _ _ ?_
  clear hK2 K2 hK1 K1
  refine x6x x9x (by rfl) ?_
  refine x1x rfl ?_
  refine x2x rfl ?_
  refine y3y ?_
  exact ⟨.inr rfl, [γ 0], rfl, congrArg (fun v : Nat => some [AV.pv (.int .i64 (v : Int))]) (by rw [List.take_length]), HE.row rfl (by rw [List.take_of_length_le (by omega), List.drop_length, List.map_nil, List.append_nil]) HE.nil⟩
 try simp at hc3
 obtain ⟨p, hp⟩ : ∃ p, l[i]? = some p := w5w (by omega)
 have hmk := a4z zPa kPa (k := k) hp
 have hat := a3f zPa hp
 have hzp : zPa p = 10 + szs zEv p.sends + szs zOu p.outs := rfl
 have hAl : (((mks zPa kPa k l).take i).map a2z).length = i := by rw [List.length_map, List.length_take]; omega
 rw [r1r hp, List.map_cons]
 rw [show a2z p = [pI p.ev.time, pI p.ev.to, pI p.ev.from', pI p.ev.count, pI p.ev.n, pI p.ev.kind, pI p.ev.arg, pI p.after.x, pI p.after.y, pI p.after.count, .row .ow 76 7 (p.sends.map v9v), .row .ow 104 5 (p.outs.map a0y)] from rfl]
 obtain ⟨q, hq⟩ : ∃ q, q = k + szs zPa (l.take i) := ⟨_, rfl⟩
 rw [← hq] at hmk ⊢
 refine y1y ?_
 refine hK2 _ _ ?_
 clear hK2 K2
 refine x7x fun K4 hK4 => ?_
 refine y6y ?_
 refine x6x x9x (by rfl) ?_
 refine x1x rfl ?_
 refine x1x rfl ?_
 refine x1x rfl ?_
 refine r0r rfl rfl w0w rfl w1w rfl rfl hAl ?_
 refine x0x rfl w1w rfl rfl z3z rfl rfl ?_
 refine x0x rfl z3z rfl rfl y9y rfl rfl ?_
 refine q2q hAl rfl rfl y9y rfl rfl rfl rfl rfl rfl rfl (by simp only [a0p]; rfl) ?_
 refine x6x x9x (by rfl) ?_
 refine x1x rfl ?_
 refine u1u (b := 1) rfl rfl (by omega) ?_
 refine x2x rfl ?_
 refine x6x x9x (by rfl) ?_
 refine x1x rfl ?_
 refine x1x rfl ?_
 refine x1x rfl ?_
 refine r0r rfl rfl w0w rfl w1w rfl rfl hAl ?_
 refine x0x rfl w1w rfl rfl z3z rfl rfl ?_
 refine x0x rfl z3z rfl rfl y9y rfl rfl ?_
 refine q2q hAl rfl rfl y9y rfl rfl rfl rfl rfl rfl rfl (by simp only [a0p]; rfl) ?_
 refine x6x x9x (by rfl) ?_
 refine x1x rfl ?_
 refine u1u (b := 1) rfl rfl (by omega) ?_
 refine x2x rfl ?_
 refine x6x x9x (by rfl) ?_
 refine x1x rfl ?_
 refine x1x rfl ?_
 refine x1x rfl ?_
 refine r0r rfl rfl w0w rfl w1w rfl rfl hAl ?_
 refine x0x rfl w1w rfl rfl z3z rfl rfl ?_
 refine x0x rfl z3z rfl rfl y9y rfl rfl ?_
 refine q2q hAl rfl rfl y9y rfl rfl rfl rfl rfl rfl rfl (by simp only [a0p]; rfl) ?_
 refine x6x x9x (by rfl) ?_
 refine x1x rfl ?_
 refine u1u (b := 1) rfl rfl (by omega) ?_
 refine x2x rfl ?_
 refine x6x x9x (by rfl) ?_
 refine x1x rfl ?_
 refine x1x rfl ?_
 refine x1x rfl ?_
 refine r0r rfl rfl w0w rfl w1w rfl rfl hAl ?_
 refine x0x rfl w1w rfl rfl z3z rfl rfl ?_
 refine x0x rfl z3z rfl rfl y9y rfl rfl ?_
 refine q2q hAl rfl rfl y9y rfl rfl rfl rfl rfl rfl rfl (by simp only [a0p]; rfl) ?_
 refine x6x x9x (by rfl) ?_
 refine x1x rfl ?_
 refine u1u (b := 1) rfl rfl (by omega) ?_
 refine x2x rfl ?_
 refine x6x x9x (by rfl) ?_
 refine x1x rfl ?_
 refine x1x rfl ?_
 refine x1x rfl ?_
 refine r0r rfl rfl w0w rfl w1w rfl rfl hAl ?_
 refine x0x rfl w1w rfl rfl z3z rfl rfl ?_
 refine x0x rfl z3z rfl rfl y9y rfl rfl ?_
 refine q2q hAl rfl rfl y9y rfl rfl rfl rfl rfl rfl rfl (by simp only [a0p]; rfl) ?_
 refine x6x x9x (by rfl) ?_
 refine x1x rfl ?_
 refine u1u (b := 1) rfl rfl (by omega) ?_
 refine x2x rfl ?_
 refine x6x x9x (by rfl) ?_
 refine x1x rfl ?_
 refine x1x rfl ?_
 refine x1x rfl ?_
 refine r0r rfl rfl w0w rfl w1w rfl rfl hAl ?_
 refine x0x rfl w1w rfl rfl z3z rfl rfl ?_
 refine x0x rfl z3z rfl rfl y9y rfl rfl ?_
 refine q2q hAl rfl rfl y9y rfl rfl rfl rfl rfl rfl rfl (by simp only [a0p]; rfl) ?_
 refine x6x x9x (by rfl) ?_
 refine x1x rfl ?_
 refine u1u (b := 1) rfl rfl (by omega) ?_
 refine x2x rfl ?_
 refine x6x x9x (by rfl) ?_
 refine x1x rfl ?_
 refine x1x rfl ?_
 refine x1x rfl ?_
 refine r0r rfl rfl w0w rfl w1w rfl rfl hAl ?_
 refine x0x rfl w1w rfl rfl z3z rfl rfl ?_
 refine x0x rfl z3z rfl rfl y9y rfl rfl ?_
 refine q2q hAl rfl rfl y9y rfl rfl rfl rfl rfl rfl rfl (by simp only [a0p]; rfl) ?_
 refine x6x x9x (by rfl) ?_
 refine x1x rfl ?_
 refine u1u (b := 1) rfl rfl (by omega) ?_
 refine x2x rfl ?_
 refine x6x x9x (by rfl) ?_
 refine x1x rfl ?_
 refine x1x rfl ?_
 refine x1x rfl ?_
 refine r0r rfl rfl w0w rfl w1w rfl rfl hAl ?_
 refine x0x rfl w1w rfl rfl r4r rfl rfl ?_
 refine x0x rfl r4r rfl rfl y9y rfl rfl ?_
 refine q2q hAl rfl rfl y9y rfl rfl rfl rfl rfl rfl rfl (by simp only [a0p]; rfl) ?_
 refine x6x x9x (by rfl) ?_
 refine x1x rfl ?_
 refine u1u (b := 1) rfl rfl (by omega) ?_
 refine x2x rfl ?_
 refine x6x x9x (by rfl) ?_
 refine x1x rfl ?_
 refine x1x rfl ?_
 refine x1x rfl ?_
 refine r0r rfl rfl w0w rfl w1w rfl rfl hAl ?_
 refine x0x rfl w1w rfl rfl r4r rfl rfl ?_
 refine x0x rfl r4r rfl rfl y9y rfl rfl ?_
 refine q2q hAl rfl rfl y9y rfl rfl rfl rfl rfl rfl rfl (by simp only [a0p]; rfl) ?_
 refine x6x x9x (by rfl) ?_
 refine x1x rfl ?_
 refine u1u (b := 1) rfl rfl (by omega) ?_
 refine x2x rfl ?_
 refine x6x x9x (by rfl) ?_
 refine x1x rfl ?_
 refine x1x rfl ?_
 refine x1x rfl ?_
 refine r0r rfl rfl w0w rfl w1w rfl rfl hAl ?_
 refine x0x rfl w1w rfl rfl r4r rfl rfl ?_
 refine x0x rfl r4r rfl rfl y9y rfl rfl ?_
 refine q2q hAl rfl rfl y9y rfl rfl rfl rfl rfl rfl rfl (by simp only [a0p]; rfl) ?_
 refine x6x x9x (by rfl) ?_
 refine x1x rfl ?_
 refine u1u (b := 1) rfl rfl (by omega) ?_
 refine x2x rfl ?_
 refine b3d 0 10 1 hAl rfl rfl rfl rfl rfl ?_
 refine x6x x9x (by rfl) ?_
 refine x1x rfl ?_
 refine x1x rfl ?_
 refine r0r rfl rfl w0w rfl w1w rfl rfl hAl ?_
 refine x0x rfl w1w rfl rfl u4u rfl rfl ?_
 refine b6d hAl rfl u4u rfl rfl ?_
 refine x1x rfl ?_
 refine v2v [1] [_] (a2y p.sends (q + 10) (by omega)) rfl rfl rfl (by decide) rfl rfl (by repeat (first | exact InH.nil | refine InH.cons rfl ?_)) (by (simp only [pI, z8z, z9z, p8p, gl, nx, p6p, Nat.beq]; rfl)) (by (simp only [pI, z8z, z9z, p8p, gl, nx, p6p, Nat.beq]; rfl)) ?_
 refine x2x rfl ?_
 refine b6e 0 10 1 hAl rfl rfl rfl (u6u fun _ => rfl) rfl rfl ?_
 refine b3d 0 11 1 hAl rfl rfl rfl rfl rfl ?_
 refine y2y x9x (by rfl) ?_
 refine x1x rfl ?_
 refine x1x rfl ?_
 refine r0r rfl rfl w0w rfl w1w rfl rfl hAl ?_
 refine x0x rfl w1w rfl rfl p9p rfl rfl ?_
 refine b6d hAl rfl p9p rfl rfl ?_
 refine x1x rfl ?_
 refine v2v [1] [_] (b0c p.outs (q + 10 + szs zEv p.sends) (by omega)) rfl rfl rfl (by decide) rfl rfl (by repeat (first | exact InH.nil | refine InH.cons rfl ?_)) (by (simp only [pI, z8z, z9z, p8p, gl, nx, p6p, Nat.beq]; rfl)) (by (simp only [pI, z8z, z9z, p8p, gl, nx, p6p, Nat.beq]; rfl)) ?_
 refine x2x rfl ?_
 refine hK4 _ _ ?_
 clear hK4 K4
 refine b6e 0 11 1 hAl rfl rfl rfl (u6u fun _ => rfl) rfl rfl ?_
 refine y2y x9x (by rfl) ?_
 refine x1x rfl ?_
 refine u1u (b := 1) rfl rfl (by omega) ?_
 refine x2x rfl ?_
 exact ⟨i + 1, ⟨by omega, by omega⟩, [0, _], (Cov.cons' (t := 1) rfl (by rw [a0u zPa hp]; exact congrArg (fun v : Nat => AV.pv (.int .i64 (v : Int))) (by omega)) (x4x 5 rfl Cov.nil)), (x4x 0 rfl Cov.nil), (HE.kill rfl (HE.row rfl (by rw [p2p hmk, List.map_append, List.append_assoc]; rfl) HE.nil)), HE.nil, rfl⟩
theorem b5s (l : List La) (k : Nat) (hk : k + szs zLa l ≤ 1000000000) : Meth Tryz.prog 87 1 [0] [.ref 0 0, .pv (.int .i64 (k : Int))] [(0, (0, .row 65 5 (l.map a1t)))] (.pv (.int .i64 ((k + szs zLa l : Nat) : Int))) [(0, (0, .row 65 5 ((mks zLa kLa k l).map a1t)))] := by
 refine u7u x9x (fn := Tryz.f87) (by kernel_rfl) (by kernel_rfl) rfl (O0 := [.pv (.int .i64 ((k + szs zLa l : Nat) : Int))]) 1 1 (v7v rfl) (by rfl) (by repeat (first | exact BndH.nil | refine BndH.row (u6u fun _ => rfl) ?_)) (by repeat (first | exact BndH.nil | refine BndH.row (u6u fun _ => rfl) ?_)) (by rfl) fun γ => ?_
 show Ex Tryz.prog _ _ [(0, .ref 0 (γ 0)), (1, .pv (.int .i64 (k : Int)))] [(0, ((γ 0), .row 65 5 (l.map a1t))), (1, (0, .dead))] _
 have hml := a4x zLa kLa k l
 have hll := a4y zLa (fun p => by unfold zLa; omega) l
 refine x6x x9x (by rfl) ?_
 refine x2x rfl ?_
 refine x7x fun K1 hK1 => ?_
 refine x6x x9x (by rfl) ?_
 refine x2x rfl ?_
 refine y6y ?_
 refine u5u (ι := Nat) (fun i γ1 => [(1, .pv (.int .i64 ((k + szs zLa (l.take i) : Nat) : Int))), (5, .pv (.int .i64 (i : Int)))]) (fun i γ1 => [(1, ((γ1 1), .dead)), (0, ((γ 0), .row 65 5 (((mks zLa kLa k l).take i).map a1t ++ (l.drop i).map a1t)))]) (fun i => i ≤ l.length) (fun i => l.length - i) (x4x 0 rfl Cov.nil) HE.nil 0 (by omega) [0, _] (Cov.cons' (t := 1) rfl (by rw [List.take_zero]; rfl) (x4x 5 rfl Cov.nil)) (HE.kill rfl (HE.row rfl (by rw [List.take_zero, List.drop_zero]; rfl) HE.nil)) rfl fun i γ1 hi => ?_
 try dsimp only [List.cons_append, List.nil_append]
 refine x7x fun K2 hK2 => ?_
 refine x6x x9x (by rfl) ?_
 refine x1x rfl ?_
 refine x1x rfl ?_
 refine a1v (n := l.length) rfl w2w rfl rfl (by rw [List.length_append, List.length_map, List.length_map, List.length_take, List.length_drop]; omega) ?_
 refine y4y rfl rfl rfl ?_
 refine y0y rfl (fun hc3 => ?_) (fun hc3 => ?_)
 rotate_left
 ·try simp at hc3
  obtain rfl : i = l.length := by omega
  refine v0v ?_
  refine hK1 _ _ ?_
  clear hK2 K2 hK1 K1
  refine x6x x9x (by rfl) ?_
  refine x1x rfl ?_
  refine x2x rfl ?_
  refine y3y ?_
  exact ⟨.inr rfl, [γ 0], rfl, congrArg (fun v : Nat => some [AV.pv (.int .i64 (v : Int))]) (by rw [List.take_length]), HE.row rfl (by rw [List.take_of_length_le (by omega), List.drop_length, List.map_nil, List.append_nil]) HE.nil⟩
 try simp at hc3
 obtain ⟨p, hp⟩ : ∃ p, l[i]? = some p := w5w (by omega)
 have hmk := a4z zLa kLa (k := k) hp
 have hat := a3f zLa hp
 have hzp : zLa p = 4 + szs zPa p.done := rfl
 have hAl : (((mks zLa kLa k l).take i).map a1t).length = i := by rw [List.length_map, List.length_take]; omega
 rw [r1r hp, List.map_cons]
 rw [show a1t p = [pI p.proc, pI p.base.x, pI p.base.y, pI p.base.count, .row .ow 78 12 (p.done.map a2z)] from rfl]
 obtain ⟨q, hq⟩ : ∃ q, q = k + szs zLa (l.take i) := ⟨_, rfl⟩
 rw [← hq] at hmk ⊢
 refine y1y ?_
 refine hK2 _ _ ?_
 clear hK2 K2
 refine x7x fun K4 hK4 => ?_
 refine y6y ?_
 refine x6x x9x (by rfl) ?_
 refine x1x rfl ?_
 refine x1x rfl ?_
 refine x1x rfl ?_
 refine r0r rfl rfl w2w rfl v8v rfl rfl hAl ?_
 refine x0x rfl v8v rfl rfl y9y rfl rfl ?_
 refine q2q hAl rfl rfl y9y rfl rfl rfl rfl rfl rfl rfl (by simp only [a0p]; rfl) ?_
 refine x6x x9x (by rfl) ?_
 refine x1x rfl ?_
 refine u1u (b := 1) rfl rfl (by omega) ?_
 refine x2x rfl ?_
 refine x6x x9x (by rfl) ?_
 refine x1x rfl ?_
 refine x1x rfl ?_
 refine x1x rfl ?_
 refine r0r rfl rfl w2w rfl v8v rfl rfl hAl ?_
 refine x0x rfl v8v rfl rfl r4r rfl rfl ?_
 refine x0x rfl r4r rfl rfl y9y rfl rfl ?_
 refine q2q hAl rfl rfl y9y rfl rfl rfl rfl rfl rfl rfl (by simp only [a0p]; rfl) ?_
 refine x6x x9x (by rfl) ?_
 refine x1x rfl ?_
 refine u1u (b := 1) rfl rfl (by omega) ?_
 refine x2x rfl ?_
 refine x6x x9x (by rfl) ?_
 refine x1x rfl ?_
 refine x1x rfl ?_
 refine x1x rfl ?_
 refine r0r rfl rfl w2w rfl v8v rfl rfl hAl ?_
 refine x0x rfl v8v rfl rfl r4r rfl rfl ?_
 refine x0x rfl r4r rfl rfl y9y rfl rfl ?_
 refine q2q hAl rfl rfl y9y rfl rfl rfl rfl rfl rfl rfl (by simp only [a0p]; rfl) ?_
 refine x6x x9x (by rfl) ?_
 refine x1x rfl ?_
 refine u1u (b := 1) rfl rfl (by omega) ?_
 refine x2x rfl ?_
 refine x6x x9x (by rfl) ?_
 refine x1x rfl ?_
 refine x1x rfl ?_
 refine x1x rfl ?_
 refine r0r rfl rfl w2w rfl v8v rfl rfl hAl ?_
 refine x0x rfl v8v rfl rfl r4r rfl rfl ?_
 refine x0x rfl r4r rfl rfl y9y rfl rfl ?_
 refine q2q hAl rfl rfl y9y rfl rfl rfl rfl rfl rfl rfl (by simp only [a0p]; rfl) ?_
 refine x6x x9x (by rfl) ?_
 refine x1x rfl ?_
 refine u1u (b := 1) rfl rfl (by omega) ?_
 refine x2x rfl ?_
 refine b3d 0 4 1 hAl rfl rfl rfl rfl rfl ?_
 refine y2y x9x (by rfl) ?_
 refine x1x rfl ?_
 refine x1x rfl ?_
 refine r0r rfl rfl w2w rfl v8v rfl rfl hAl ?_
 refine x0x rfl v8v rfl rfl w0w rfl rfl ?_
 refine b6d hAl rfl w0w rfl rfl ?_
 refine x1x rfl ?_
 refine v2v [1] [_] (b5r p.done (q + 4) (by omega)) rfl rfl rfl (by decide) rfl rfl (by repeat (first | exact InH.nil | refine InH.cons rfl ?_)) (by (simp only [pI, z8z, z9z, p8p, gl, nx, p6p, Nat.beq]; rfl)) (by (simp only [pI, z8z, z9z, p8p, gl, nx, p6p, Nat.beq]; rfl)) ?_
 refine x2x rfl ?_
 refine hK4 _ _ ?_
 clear hK4 K4
 refine b6e 0 4 1 hAl rfl rfl rfl (u6u fun _ => rfl) rfl rfl ?_
 refine y2y x9x (by rfl) ?_
 refine x1x rfl ?_
 refine u1u (b := 1) rfl rfl (by omega) ?_
 refine x2x rfl ?_
 exact ⟨i + 1, ⟨by omega, by omega⟩, [0, _], (Cov.cons' (t := 1) rfl (by rw [a0u zLa hp]; exact congrArg (fun v : Nat => AV.pv (.int .i64 (v : Int))) (by omega)) (x4x 5 rfl Cov.nil)), (x4x 0 rfl Cov.nil), (HE.kill rfl (HE.row rfl (by rw [p2p hmk, List.map_append, List.append_assoc]; rfl) HE.nil)), HE.nil, rfl⟩
theorem b5t (l : List Vi) (k : Nat) (hk : k + szs zVi l ≤ 1000000000) : Meth Tryz.prog 89 1 [0] [.ref 0 0, .pv (.int .i64 (k : Int))] [(0, (0, .row 141 3 (l.map a1u)))] (.pv (.int .i64 ((k + szs zVi l : Nat) : Int))) [(0, (0, .row 141 3 ((mks zVi kVi k l).map a1u)))] := by
 refine u7u x9x (fn := Tryz.f89) (by kernel_rfl) (by kernel_rfl) rfl (O0 := [.pv (.int .i64 ((k + szs zVi l : Nat) : Int))]) 1 1 (v7v rfl) (by rfl) (by repeat (first | exact BndH.nil | refine BndH.row (u6u fun _ => rfl) ?_)) (by repeat (first | exact BndH.nil | refine BndH.row (u6u fun _ => rfl) ?_)) (by rfl) fun γ => ?_
 show Ex Tryz.prog _ _ [(0, .ref 0 (γ 0)), (1, .pv (.int .i64 (k : Int)))] [(0, ((γ 0), .row 141 3 (l.map a1u))), (1, (0, .dead))] _
 have hml := a4x zVi kVi k l
 have hll := a4y zVi (fun p => by unfold zVi; omega) l
 refine x6x x9x (by rfl) ?_
 refine x2x rfl ?_
 refine x7x fun K1 hK1 => ?_
 refine x6x x9x (by rfl) ?_
 refine x2x rfl ?_
 refine y6y ?_
 refine u5u (ι := Nat) (fun i γ1 => [(1, .pv (.int .i64 ((k + szs zVi (l.take i) : Nat) : Int))), (5, .pv (.int .i64 (i : Int)))]) (fun i γ1 => [(1, ((γ1 1), .dead)), (0, ((γ 0), .row 141 3 (((mks zVi kVi k l).take i).map a1u ++ (l.drop i).map a1u)))]) (fun i => i ≤ l.length) (fun i => l.length - i) (x4x 0 rfl Cov.nil) HE.nil 0 (by omega) [0, _] (Cov.cons' (t := 1) rfl (by rw [List.take_zero]; rfl) (x4x 5 rfl Cov.nil)) (HE.kill rfl (HE.row rfl (by rw [List.take_zero, List.drop_zero]; rfl) HE.nil)) rfl fun i γ1 hi => ?_
 try dsimp only [List.cons_append, List.nil_append]
 refine x7x fun K2 hK2 => ?_
 refine x6x x9x (by rfl) ?_
 refine x1x rfl ?_
 refine x1x rfl ?_
 refine a1v (n := l.length) rfl p1p rfl rfl (by rw [List.length_append, List.length_map, List.length_map, List.length_take, List.length_drop]; omega) ?_
 refine y4y rfl rfl rfl ?_
 refine y0y rfl (fun hc3 => ?_) (fun hc3 => ?_)
 rotate_left
 ·try simp at hc3
  obtain rfl : i = l.length := by omega
  refine v0v ?_
  refine hK1 _ _ ?_
  clear hK2 K2 hK1 K1
  refine x6x x9x (by rfl) ?_
  refine x1x rfl ?_
  refine x2x rfl ?_
  refine y3y ?_
  exact ⟨.inr rfl, [γ 0], rfl, congrArg (fun v : Nat => some [AV.pv (.int .i64 (v : Int))]) (by rw [List.take_length]), HE.row rfl (by rw [List.take_of_length_le (by omega), List.drop_length, List.map_nil, List.append_nil]) HE.nil⟩
 try simp at hc3
 obtain ⟨p, hp⟩ : ∃ p, l[i]? = some p := w5w (by omega)
 have hmk := a4z zVi kVi (k := k) hp
 have hat := a3f zVi hp
 have hzp : zVi p = 2 + szs zEv p.events := rfl
 have hAl : (((mks zVi kVi k l).take i).map a1u).length = i := by rw [List.length_map, List.length_take]; omega
 rw [r1r hp, List.map_cons]
 rw [show a1u p = [pI p.inc, pI p.version, .row .ow 76 7 (p.events.map v9v)] from rfl]
 obtain ⟨q, hq⟩ : ∃ q, q = k + szs zVi (l.take i) := ⟨_, rfl⟩
 rw [← hq] at hmk ⊢
 refine y1y ?_
 refine hK2 _ _ ?_
 clear hK2 K2
 refine x7x fun K4 hK4 => ?_
 refine y6y ?_
 refine x6x x9x (by rfl) ?_
 refine x1x rfl ?_
 refine x1x rfl ?_
 refine x1x rfl ?_
 refine r0r rfl rfl p1p rfl v6v rfl rfl hAl ?_
 refine x0x rfl v6v rfl rfl y9y rfl rfl ?_
 refine q2q hAl rfl rfl y9y rfl rfl rfl rfl rfl rfl rfl (by simp only [a0p]; rfl) ?_
 refine x6x x9x (by rfl) ?_
 refine x1x rfl ?_
 refine u1u (b := 1) rfl rfl (by omega) ?_
 refine x2x rfl ?_
 refine x6x x9x (by rfl) ?_
 refine x1x rfl ?_
 refine x1x rfl ?_
 refine x1x rfl ?_
 refine r0r rfl rfl p1p rfl v6v rfl rfl hAl ?_
 refine x0x rfl v6v rfl rfl y9y rfl rfl ?_
 refine q2q hAl rfl rfl y9y rfl rfl rfl rfl rfl rfl rfl (by simp only [a0p]; rfl) ?_
 refine x6x x9x (by rfl) ?_
 refine x1x rfl ?_
 refine u1u (b := 1) rfl rfl (by omega) ?_
 refine x2x rfl ?_
 refine b3d 0 2 1 hAl rfl rfl rfl rfl rfl ?_
 refine y2y x9x (by rfl) ?_
 refine x1x rfl ?_
 refine x1x rfl ?_
 refine r0r rfl rfl p1p rfl v6v rfl rfl hAl ?_
 refine x0x rfl v6v rfl rfl u4u rfl rfl ?_
 refine b6d hAl rfl u4u rfl rfl ?_
 refine x1x rfl ?_
 refine v2v [1] [_] (a2y p.events (q + 2) (by omega)) rfl rfl rfl (by decide) rfl rfl (by repeat (first | exact InH.nil | refine InH.cons rfl ?_)) (by (simp only [pI, z8z, z9z, p8p, gl, nx, p6p, Nat.beq]; rfl)) (by (simp only [pI, z8z, z9z, p8p, gl, nx, p6p, Nat.beq]; rfl)) ?_
 refine x2x rfl ?_
 refine hK4 _ _ ?_
 clear hK4 K4
 refine b6e 0 2 1 hAl rfl rfl rfl (u6u fun _ => rfl) rfl rfl ?_
 refine y2y x9x (by rfl) ?_
 refine x1x rfl ?_
 refine u1u (b := 1) rfl rfl (by omega) ?_
 refine x2x rfl ?_
 exact ⟨i + 1, ⟨by omega, by omega⟩, [0, _], (Cov.cons' (t := 1) rfl (by rw [a0u zVi hp]; exact congrArg (fun v : Nat => AV.pv (.int .i64 (v : Int))) (by omega)) (x4x 5 rfl Cov.nil)), (x4x 0 rfl Cov.nil), (HE.kill rfl (HE.row rfl (by rw [p2p hmk, List.map_append, List.append_assoc]; rfl) HE.nil)), HE.nil, rfl⟩
theorem b0d (n : Nd) (k : Nat) (hk : k + zNd n ≤ 1000000000) : Meth Tryz.prog 21 5 [0, 1, 2, 3, 4] [.agg [pI n.id, .pv (.bool n.up), pI n.inc, pI n.g, .ref 0 0, .ref 1 0, .ref 2 0, pI n.led, pI n.version, .ref 3 0, .ref 4 0, pI n.round, pI n.low], .pv (.int .i64 (k : Int))] [(0, (0, .row 65 5 (n.lanes.map a1t))), (1, (0, .row 76 7 (n.kept.map v9v))), (2, (0, .row 104 5 (n.outs.map a0y))), (3, (0, .row 141 3 (n.views.map a1u))), (4, (0, .row 3 1 (n.known.map a2h)))] (.pv (.int .i64 ((k + zNd n : Nat) : Int))) [(0, (0, .row 65 5 ((kNd k n).lanes.map a1t))), (1, (0, .row 76 7 ((kNd k n).kept.map v9v))), (2, (0, .row 104 5 ((kNd k n).outs.map a0y))), (3, (0, .row 141 3 ((kNd k n).views.map a1u))), (4, (0, .row 3 1 ((kNd k n).known.map a2h)))] := by
 refine u7u x9x (fn := Tryz.f21) (by kernel_rfl) (by kernel_rfl) rfl (O0 := [.pv (.int .i64 ((k + zNd n : Nat) : Int))]) 5 1 (v7v rfl) (by rfl) (by repeat (first | exact BndH.nil | refine BndH.row (u6u fun _ => rfl) ?_)) (by repeat (first | exact BndH.nil | refine BndH.row (u6u fun _ => rfl) ?_)) (by rfl) fun γ => ?_
 show Ex Tryz.prog _ _ [(0, .agg [pI n.id, .pv (.bool n.up), pI n.inc, pI n.g, .ref 0 (γ 0), .ref 1 (γ 1), .ref 2 (γ 2), pI n.led, pI n.version, .ref 3 (γ 3), .ref 4 (γ 4), pI n.round, pI n.low]), (1, .pv (.int .i64 (k : Int)))] [(0, ((γ 0), .row 65 5 (n.lanes.map a1t))), (1, ((γ 1), .row 76 7 (n.kept.map v9v))), (2, ((γ 2), .row 104 5 (n.outs.map a0y))), (3, ((γ 3), .row 141 3 (n.views.map a1u))), (4, ((γ 4), .row 3 1 (n.known.map a2h))), (5, (0, .dead))] _
 have hz : zNd n = szs zLa n.lanes + szs zEv n.kept + szs zOu n.outs + szs zVi n.views + szs zI n.known := rfl
 refine x6x x9x (by rfl) ?_
 refine v4v (id := 5) rfl rfl rfl ?_
 refine x2x rfl ?_
 refine x6x x9x (by rfl) ?_
 refine x0x rfl z6z rfl rfl w2w rfl rfl ?_
 refine x3x rfl w2w rfl rfl ?_
 refine x1x rfl ?_
 refine v2v [0] [_] (b5s n.lanes k (by omega)) rfl rfl rfl (by decide) rfl rfl (by repeat (first | exact InH.nil | refine InH.cons rfl ?_)) (by (simp only [pI, z8z, z9z, p8p, gl, nx, p6p, Nat.beq]; rfl)) (by (simp only [pI, z8z, z9z, p8p, gl, nx, p6p, Nat.beq]; rfl)) ?_
 refine x2x rfl ?_
 refine x6x x9x (by rfl) ?_
 refine x0x rfl z6z rfl rfl u4u rfl rfl ?_
 refine x3x rfl u4u rfl rfl ?_
 refine x1x rfl ?_
 refine v2v [1] [_] (a2y n.kept (k + szs zLa n.lanes) (by omega)) rfl rfl rfl (by decide) rfl rfl (by repeat (first | exact InH.nil | refine InH.cons rfl ?_)) (by (simp only [pI, z8z, z9z, p8p, gl, nx, p6p, Nat.beq]; rfl)) (by (simp only [pI, z8z, z9z, p8p, gl, nx, p6p, Nat.beq]; rfl)) ?_
 refine x2x rfl ?_
 refine x6x x9x (by rfl) ?_
 refine x0x rfl z6z rfl rfl p9p rfl rfl ?_
 refine x3x rfl p9p rfl rfl ?_
 refine x1x rfl ?_
 refine v2v [2] [_] (b0c n.outs (k + szs zLa n.lanes + szs zEv n.kept) (by omega)) rfl rfl rfl (by decide) rfl rfl (by repeat (first | exact InH.nil | refine InH.cons rfl ?_)) (by (simp only [pI, z8z, z9z, p8p, gl, nx, p6p, Nat.beq]; rfl)) (by (simp only [pI, z8z, z9z, p8p, gl, nx, p6p, Nat.beq]; rfl)) ?_
 refine x2x rfl ?_
 refine x6x x9x (by rfl) ?_
 refine x0x rfl z6z rfl rfl p1p rfl rfl ?_
 refine x3x rfl p1p rfl rfl ?_
 refine x1x rfl ?_
 refine v2v [3] [_] (b5t n.views (k + szs zLa n.lanes + szs zEv n.kept + szs zOu n.outs) (by omega)) rfl rfl rfl (by decide) rfl rfl (by repeat (first | exact InH.nil | refine InH.cons rfl ?_)) (by (simp only [pI, z8z, z9z, p8p, gl, nx, p6p, Nat.beq]; rfl)) (by (simp only [pI, z8z, z9z, p8p, gl, nx, p6p, Nat.beq]; rfl)) ?_
 refine x2x rfl ?_
 refine x6x x9x (by rfl) ?_
 refine x0x rfl z6z rfl rfl p4p rfl rfl ?_
 refine x3x rfl p4p rfl rfl ?_
 refine x1x rfl ?_
 refine v2v [4] [_] (b8f n.known (k + szs zLa n.lanes + szs zEv n.kept + szs zOu n.outs + szs zVi n.views) (by omega)) rfl rfl rfl (by decide) rfl rfl (by repeat (first | exact InH.nil | refine InH.cons rfl ?_)) (by (simp only [pI, z8z, z9z, p8p, gl, nx, p6p, Nat.beq]; rfl)) (by (simp only [pI, z8z, z9z, p8p, gl, nx, p6p, Nat.beq]; rfl)) ?_
 refine x2x rfl ?_
 refine x6x x9x (by rfl) ?_
 refine x1x rfl ?_
 refine x2x rfl ?_
 refine y3y ?_
 exact ⟨.inr rfl, [γ 0, γ 1, γ 2, γ 3, γ 4], rfl, congrArg (fun v : Nat => some [AV.pv (.int .i64 (v : Int))]) (by omega), HE.row rfl rfl (HE.row rfl rfl (HE.row rfl rfl (HE.row rfl rfl (HE.row rfl rfl HE.nil))))⟩
end
section
theorem b1h (a b : Ev) : a0z Tryz.prog 142 [.agg (v9v a), .agg (v9v b)] (.pv (.bool (decide (a = b)))) := by
 refine z4z x9x (fn := Tryz.f142) (by kernel_rfl) (by kernel_rfl) rfl (outs := [.pv (.bool (decide (a = b)))]) (by rfl) (v7v rfl) 2 ?_
 refine x6x x9x (by rfl) ?_
 refine v4v (id := 0) rfl rfl rfl ?_
 refine v4v (id := 1) rfl rfl rfl ?_
 refine x2x rfl ?_
 refine x7x fun K1 hK1 => ?_
 refine x6x x9x (by rfl) ?_
 refine x0x rfl z3z rfl rfl y9y rfl rfl ?_
 refine x3x rfl y9y rfl rfl ?_
 refine x0x rfl z3z rfl rfl y9y rfl rfl ?_
 refine x3x rfl y9y rfl rfl ?_
 refine y4y rfl rfl rfl ?_
 refine y0y rfl (fun hc2 => ?_) (fun hc2 => ?_)
 ·try simp at hc2
  refine x6x x9x (by rfl) ?_
  refine x2x rfl ?_
  refine y3y ⟨.inr rfl, ?_⟩
  clear hK1 K1
  refine z2z rfl ?_ rfl
  exact kF (by intro h; subst h; simp_all)
 try simp at hc2
 refine y1y ?_
 refine hK1 _ _ ?_
 clear hK1 K1
 refine x7x fun K3 hK3 => ?_
 refine x6x x9x (by rfl) ?_
 refine x0x rfl z3z rfl rfl y9y rfl rfl ?_
 refine x3x rfl y9y rfl rfl ?_
 refine x0x rfl z3z rfl rfl y9y rfl rfl ?_
 refine x3x rfl y9y rfl rfl ?_
 refine y4y rfl rfl rfl ?_
 refine y0y rfl (fun hc4 => ?_) (fun hc4 => ?_)
 ·try simp at hc4
  refine x6x x9x (by rfl) ?_
  refine x2x rfl ?_
  refine y3y ⟨.inr rfl, ?_⟩
  clear hK3 K3
  refine z2z rfl ?_ rfl
  exact kF (by intro h; subst h; simp_all)
 try simp at hc4
 refine y1y ?_
 refine hK3 _ _ ?_
 clear hK3 K3
 refine x7x fun K5 hK5 => ?_
 refine x6x x9x (by rfl) ?_
 refine x0x rfl z3z rfl rfl y9y rfl rfl ?_
 refine x3x rfl y9y rfl rfl ?_
 refine x0x rfl z3z rfl rfl y9y rfl rfl ?_
 refine x3x rfl y9y rfl rfl ?_
 refine y4y rfl rfl rfl ?_
 refine y0y rfl (fun hc6 => ?_) (fun hc6 => ?_)
 ·try simp at hc6
  refine x6x x9x (by rfl) ?_
  refine x2x rfl ?_
  refine y3y ⟨.inr rfl, ?_⟩
  clear hK5 K5
  refine z2z rfl ?_ rfl
  exact kF (by intro h; subst h; simp_all)
 try simp at hc6
 refine y1y ?_
 refine hK5 _ _ ?_
 clear hK5 K5
 refine x7x fun K7 hK7 => ?_
 refine x6x x9x (by rfl) ?_
 refine x0x rfl z3z rfl rfl y9y rfl rfl ?_
 refine x3x rfl y9y rfl rfl ?_
 refine x0x rfl z3z rfl rfl y9y rfl rfl ?_
 refine x3x rfl y9y rfl rfl ?_
 refine y4y rfl rfl rfl ?_
 refine y0y rfl (fun hc8 => ?_) (fun hc8 => ?_)
 ·try simp at hc8
  refine x6x x9x (by rfl) ?_
  refine x2x rfl ?_
  refine y3y ⟨.inr rfl, ?_⟩
  clear hK7 K7
  refine z2z rfl ?_ rfl
  exact kF (by intro h; subst h; simp_all)
 try simp at hc8
 refine y1y ?_
 refine hK7 _ _ ?_
 clear hK7 K7
 refine x7x fun K9 hK9 => ?_
 refine x6x x9x (by rfl) ?_
 refine x0x rfl z3z rfl rfl y9y rfl rfl ?_
 refine x3x rfl y9y rfl rfl ?_
 refine x0x rfl z3z rfl rfl y9y rfl rfl ?_
 refine x3x rfl y9y rfl rfl ?_
 refine y4y rfl rfl rfl ?_
 refine y0y rfl (fun hc10 => ?_) (fun hc10 => ?_)
 ·try simp at hc10
  refine x6x x9x (by rfl) ?_
  refine x2x rfl ?_
  refine y3y ⟨.inr rfl, ?_⟩
  clear hK9 K9
  refine z2z rfl ?_ rfl
  exact kF (by intro h; subst h; simp_all)
 try simp at hc10
 refine y1y ?_
 refine hK9 _ _ ?_
 clear hK9 K9
 refine x7x fun K11 hK11 => ?_
 refine x6x x9x (by rfl) ?_
 refine x0x rfl z3z rfl rfl y9y rfl rfl ?_
 refine x3x rfl y9y rfl rfl ?_
 refine x0x rfl z3z rfl rfl y9y rfl rfl ?_
 refine x3x rfl y9y rfl rfl ?_
 refine y4y rfl rfl rfl ?_
 refine y0y rfl (fun hc12 => ?_) (fun hc12 => ?_)
 ·try simp at hc12
  refine x6x x9x (by rfl) ?_
  refine x2x rfl ?_
  refine y3y ⟨.inr rfl, ?_⟩
  clear hK11 K11
  refine z2z rfl ?_ rfl
  exact kF (by intro h; subst h; simp_all)
 try simp at hc12
 refine y1y ?_
 refine hK11 _ _ ?_
 clear hK11 K11
 refine x7x fun K13 hK13 => ?_
 refine x6x x9x (by rfl) ?_
 refine x0x rfl z3z rfl rfl y9y rfl rfl ?_
 refine x3x rfl y9y rfl rfl ?_
 refine x0x rfl z3z rfl rfl y9y rfl rfl ?_
 refine x3x rfl y9y rfl rfl ?_
 refine y4y rfl rfl rfl ?_
 refine y0y rfl (fun hc14 => ?_) (fun hc14 => ?_)
 ·try simp at hc14
  refine x6x x9x (by rfl) ?_
  refine x2x rfl ?_
  refine y3y ⟨.inr rfl, ?_⟩
  clear hK13 K13
  refine z2z rfl ?_ rfl
  exact kF (by intro h; subst h; simp_all)
 try simp at hc14
 refine y1y ?_
 refine hK13 _ _ ?_
 clear hK13 K13
 refine x6x x9x (by rfl) ?_
 refine x2x rfl ?_
 refine y3y ⟨.inr rfl, ?_⟩
 refine z2z rfl ?_ rfl
 exact kT (by cases a; cases b; simp_all)
theorem c4j (a b : Ou) : a0z Tryz.prog 177 [.agg (a0y a), .agg (a0y b)] (.pv (.bool (decide (a = b)))) := by
 refine z4z x9x (fn := Tryz.f177) (by kernel_rfl) (by kernel_rfl) rfl (outs := [.pv (.bool (decide (a = b)))]) (by rfl) (v7v rfl) 2 ?_
 refine x6x x9x (by rfl) ?_
 refine v4v (id := 0) rfl rfl rfl ?_
 refine v4v (id := 1) rfl rfl rfl ?_
 refine x2x rfl ?_
 refine x7x fun K1 hK1 => ?_
 refine x6x x9x (by rfl) ?_
 refine x0x rfl v5v rfl rfl y9y rfl rfl ?_
 refine x3x rfl y9y rfl rfl ?_
 refine x0x rfl v5v rfl rfl y9y rfl rfl ?_
 refine x3x rfl y9y rfl rfl ?_
 refine y4y rfl rfl rfl ?_
 refine y0y rfl (fun hc2 => ?_) (fun hc2 => ?_)
 ·try simp at hc2
  refine x6x x9x (by rfl) ?_
  refine x2x rfl ?_
  refine y3y ⟨.inr rfl, ?_⟩
  clear hK1 K1
  refine z2z rfl ?_ rfl
  exact kF (by intro h; subst h; simp_all)
 try simp at hc2
 refine y1y ?_
 refine hK1 _ _ ?_
 clear hK1 K1
 refine x7x fun K3 hK3 => ?_
 refine x6x x9x (by rfl) ?_
 refine x0x rfl v5v rfl rfl y9y rfl rfl ?_
 refine x3x rfl y9y rfl rfl ?_
 refine x0x rfl v5v rfl rfl y9y rfl rfl ?_
 refine x3x rfl y9y rfl rfl ?_
 refine y4y rfl rfl rfl ?_
 refine y0y rfl (fun hc4 => ?_) (fun hc4 => ?_)
 ·try simp at hc4
  refine x6x x9x (by rfl) ?_
  refine x2x rfl ?_
  refine y3y ⟨.inr rfl, ?_⟩
  clear hK3 K3
  refine z2z rfl ?_ rfl
  exact kF (by intro h; subst h; simp_all)
 try simp at hc4
 refine y1y ?_
 refine hK3 _ _ ?_
 clear hK3 K3
 refine x7x fun K5 hK5 => ?_
 refine x6x x9x (by rfl) ?_
 refine x0x rfl v5v rfl rfl y9y rfl rfl ?_
 refine x3x rfl y9y rfl rfl ?_
 refine x0x rfl v5v rfl rfl y9y rfl rfl ?_
 refine x3x rfl y9y rfl rfl ?_
 refine y4y rfl rfl rfl ?_
 refine y0y rfl (fun hc6 => ?_) (fun hc6 => ?_)
 ·try simp at hc6
  refine x6x x9x (by rfl) ?_
  refine x2x rfl ?_
  refine y3y ⟨.inr rfl, ?_⟩
  clear hK5 K5
  refine z2z rfl ?_ rfl
  exact kF (by intro h; subst h; simp_all)
 try simp at hc6
 refine y1y ?_
 refine hK5 _ _ ?_
 clear hK5 K5
 refine x7x fun K7 hK7 => ?_
 refine x6x x9x (by rfl) ?_
 refine x0x rfl v5v rfl rfl y9y rfl rfl ?_
 refine x3x rfl y9y rfl rfl ?_
 refine x0x rfl v5v rfl rfl y9y rfl rfl ?_
 refine x3x rfl y9y rfl rfl ?_
 refine y4y rfl rfl rfl ?_
 refine y0y rfl (fun hc8 => ?_) (fun hc8 => ?_)
 ·try simp at hc8
  refine x6x x9x (by rfl) ?_
  refine x2x rfl ?_
  refine y3y ⟨.inr rfl, ?_⟩
  clear hK7 K7
  refine z2z rfl ?_ rfl
  exact kF (by intro h; subst h; simp_all)
 try simp at hc8
 refine y1y ?_
 refine hK7 _ _ ?_
 clear hK7 K7
 refine x7x fun K9 hK9 => ?_
 refine x6x x9x (by rfl) ?_
 refine x0x rfl v5v rfl rfl y9y rfl rfl ?_
 refine x3x rfl y9y rfl rfl ?_
 refine x0x rfl v5v rfl rfl y9y rfl rfl ?_
 refine x3x rfl y9y rfl rfl ?_
 refine y4y rfl rfl rfl ?_
 refine y0y rfl (fun hc10 => ?_) (fun hc10 => ?_)
 ·try simp at hc10
  refine x6x x9x (by rfl) ?_
  refine x2x rfl ?_
  refine y3y ⟨.inr rfl, ?_⟩
  clear hK9 K9
  refine z2z rfl ?_ rfl
  exact kF (by intro h; subst h; simp_all)
 try simp at hc10
 refine y1y ?_
 refine hK9 _ _ ?_
 clear hK9 K9
 refine x6x x9x (by rfl) ?_
 refine x2x rfl ?_
 refine y3y ⟨.inr rfl, ?_⟩
 refine z2z rfl ?_ rfl
 exact kT (by cases a; cases b; simp_all)
theorem b1i (a b : St) : a0z Tryz.prog 224 [.agg (s9s a), .agg (s9s b)] (.pv (.bool (decide (a = b)))) := by
 refine z4z x9x (fn := Tryz.f224) (by kernel_rfl) (by kernel_rfl) rfl (outs := [.pv (.bool (decide (a = b)))]) (by rfl) (v7v rfl) 2 ?_
 refine x6x x9x (by rfl) ?_
 refine v4v (id := 0) rfl rfl rfl ?_
 refine v4v (id := 1) rfl rfl rfl ?_
 refine x2x rfl ?_
 refine x7x fun K1 hK1 => ?_
 refine x6x x9x (by rfl) ?_
 refine x0x rfl r4r rfl rfl y9y rfl rfl ?_
 refine x3x rfl y9y rfl rfl ?_
 refine x0x rfl r4r rfl rfl y9y rfl rfl ?_
 refine x3x rfl y9y rfl rfl ?_
 refine y4y rfl rfl rfl ?_
 refine y0y rfl (fun hc2 => ?_) (fun hc2 => ?_)
 ·try simp at hc2
  refine x6x x9x (by rfl) ?_
  refine x2x rfl ?_
  refine y3y ⟨.inr rfl, ?_⟩
  clear hK1 K1
  refine z2z rfl ?_ rfl
  exact kF (by intro h; subst h; simp_all)
 try simp at hc2
 refine y1y ?_
 refine hK1 _ _ ?_
 clear hK1 K1
 refine x7x fun K3 hK3 => ?_
 refine x6x x9x (by rfl) ?_
 refine x0x rfl r4r rfl rfl y9y rfl rfl ?_
 refine x3x rfl y9y rfl rfl ?_
 refine x0x rfl r4r rfl rfl y9y rfl rfl ?_
 refine x3x rfl y9y rfl rfl ?_
 refine y4y rfl rfl rfl ?_
 refine y0y rfl (fun hc4 => ?_) (fun hc4 => ?_)
 ·try simp at hc4
  refine x6x x9x (by rfl) ?_
  refine x2x rfl ?_
  refine y3y ⟨.inr rfl, ?_⟩
  clear hK3 K3
  refine z2z rfl ?_ rfl
  exact kF (by intro h; subst h; simp_all)
 try simp at hc4
 refine y1y ?_
 refine hK3 _ _ ?_
 clear hK3 K3
 refine x7x fun K5 hK5 => ?_
 refine x6x x9x (by rfl) ?_
 refine x0x rfl r4r rfl rfl y9y rfl rfl ?_
 refine x3x rfl y9y rfl rfl ?_
 refine x0x rfl r4r rfl rfl y9y rfl rfl ?_
 refine x3x rfl y9y rfl rfl ?_
 refine y4y rfl rfl rfl ?_
 refine y0y rfl (fun hc6 => ?_) (fun hc6 => ?_)
 ·try simp at hc6
  refine x6x x9x (by rfl) ?_
  refine x2x rfl ?_
  refine y3y ⟨.inr rfl, ?_⟩
  clear hK5 K5
  refine z2z rfl ?_ rfl
  exact kF (by intro h; subst h; simp_all)
 try simp at hc6
 refine y1y ?_
 refine hK5 _ _ ?_
 clear hK5 K5
 refine x6x x9x (by rfl) ?_
 refine x2x rfl ?_
 refine y3y ⟨.inr rfl, ?_⟩
 refine z2z rfl ?_ rfl
 exact kT (by cases a; cases b; simp_all)
theorem c1t (c c' : Bool) (l l' : List Int) : a0z Tryz.prog 19 [a4r c l, a4r c' l'] (.pv (.bool (decide (l = l')))) := by
 refine z4z x9x (fn := Tryz.f19) (by kernel_rfl) (by kernel_rfl) rfl (outs := [.pv (.bool (decide (l = l')))]) (by rfl) (v7v rfl) 0 ?_
 refine w4w 0 rfl fun hlen => ?_
 refine x6x x9x (by rfl) ?_
 refine x2x rfl ?_
 refine x7x fun K1 hK1 => ?_
 refine x6x x9x (by rfl) ?_
 refine x1x rfl ?_
 refine u3u rfl p4p rfl ?_
 refine x1x rfl ?_
 refine u3u rfl p4p rfl ?_
 refine y4y rfl rfl rfl ?_
 refine y0y rfl (fun hc2 => ?_) (fun hc2 => ?_)
 ·try simp at hc2
  refine x6x x9x (by rfl) ?_
  refine x2x rfl ?_
  refine y3y ⟨.inr rfl, ?_⟩
  clear hK1 K1
  refine z2z rfl ?_ rfl
  exact d3x (by omega)
 try simp at hc2
 refine y1y ?_
 refine hK1 _ _ ?_
 clear hK1 K1
 refine x7x fun K3 hK3 => ?_
 refine x6x x9x (by rfl) ?_
 refine x2x rfl ?_
 refine y6y ?_
 refine u5u (ι := Nat) (fun i γ1 => [(5, .pv (.int .i64 (i : Int)))]) (fun i γ1 => []) (fun i => i ≤ l.length ∧ l.length = l'.length ∧ l.take i = l'.take i) (fun i => l.length - i) (x4x 0 rfl (x4x 1 rfl Cov.nil)) HE.nil 0 ⟨by omega, by omega, rfl⟩ [] (x4x 5 rfl Cov.nil) HE.nil rfl fun i γ1 hi => ?_
 try dsimp only [List.cons_append, List.nil_append]
 obtain ⟨h1, h2, h3⟩ := hi
 refine x7x fun K4 hK4 => ?_
 refine x6x x9x (by rfl) ?_
 refine x1x rfl ?_
 refine x1x rfl ?_
 refine u3u rfl p4p rfl ?_
 refine y4y rfl rfl rfl ?_
 refine y0y rfl (fun hc5 => ?_) (fun hc5 => ?_)
 rotate_left
 ·try simp at hc5
  refine v0v ?_
  refine hK3 _ _ ?_
  clear hK4 K4 hK3 K3
  refine x6x x9x (by rfl) ?_
  refine x2x rfl ?_
  refine y3y ⟨.inr rfl, ?_⟩
  refine z2z rfl ?_ rfl
  exact eqT h3 (by omega) (by omega)
 try simp at hc5
 refine y1y ?_
 refine hK4 _ _ ?_
 clear hK4 K4
 refine x7x fun K6 hK6 => ?_
 refine y6y ?_
 refine q5q x9x r6r (by rfl) ?_
 refine x1x rfl ?_
 refine x1x rfl ?_
 obtain ⟨x, hx⟩ : ∃ x, l[i]? = some x := w5w (by omega)
 refine u0u rfl rfl p4p rfl y9y rfl hx ?_
 refine z7z rfl y9y rfl ?_
 refine x1x rfl ?_
 refine x1x rfl ?_
 obtain ⟨y, hy⟩ : ∃ y, l'[i]? = some y := w5w (by omega)
 refine u0u rfl rfl p4p rfl y9y rfl hy ?_
 refine z7z rfl y9y rfl ?_
 refine y4y rfl rfl rfl ?_
 refine ⟨by kernel_rfl, ?_⟩
 refine y0y rfl (fun hc7 => ?_) (fun hc7 => ?_)
 rotate_left
 ·try simp at hc7
  refine y1y ?_
  refine hK6 _ _ ?_
  clear hK6 K6
  refine y2y x9x (by rfl) ?_
  refine x1x rfl ?_
  refine a2g (.int .i64 ((i + 1 : Nat) : Int)) rfl rfl rfl (a9k rfl (by omega) (by omega) (by have := hlen; omega)) ?_
  refine x2x rfl ?_
  exact ⟨i + 1, ⟨⟨by omega, h2, a3y h3 hx hy (by assumption)⟩, by omega⟩, [], (x4x 5 rfl Cov.nil), (x4x 0 rfl (x4x 1 rfl Cov.nil)), HE.nil, HE.nil, rfl⟩
 try simp at hc7
 refine x6x x9x (by rfl) ?_
 refine x2x rfl ?_
 refine y3y ⟨.inr rfl, ?_⟩
 clear hK6 K6 hK3 K3
 refine z2z rfl ?_ rfl
 exact d3y hx hy (by assumption)
theorem a3z (c c' : Bool) (l l' : List Ev) : a0z Tryz.prog 55 [r7r c l, r7r c' l'] (.pv (.bool (decide (l = l')))) := by
 refine z4z x9x (fn := Tryz.f55) (by kernel_rfl) (by kernel_rfl) rfl (outs := [.pv (.bool (decide (l = l')))]) (by rfl) (v7v rfl) 0 ?_
 refine w4w 0 rfl fun hlen => ?_
 refine x6x x9x (by rfl) ?_
 refine x2x rfl ?_
 refine x7x fun K1 hK1 => ?_
 refine x6x x9x (by rfl) ?_
 refine x1x rfl ?_
 refine u3u rfl u4u rfl ?_
 refine x1x rfl ?_
 refine u3u rfl u4u rfl ?_
 refine y4y rfl rfl rfl ?_
 refine y0y rfl (fun hc2 => ?_) (fun hc2 => ?_)
 ·try simp at hc2
  refine x6x x9x (by rfl) ?_
  refine x2x rfl ?_
  refine y3y ⟨.inr rfl, ?_⟩
  clear hK1 K1
  refine z2z rfl ?_ rfl
  exact d3x (by omega)
 try simp at hc2
 refine y1y ?_
 refine hK1 _ _ ?_
 clear hK1 K1
 refine x7x fun K3 hK3 => ?_
 refine x6x x9x (by rfl) ?_
 refine x2x rfl ?_
 refine y6y ?_
 refine u5u (ι := Nat) (fun i γ1 => [(5, .pv (.int .i64 (i : Int)))]) (fun i γ1 => []) (fun i => i ≤ l.length ∧ l.length = l'.length ∧ l.take i = l'.take i) (fun i => l.length - i) (x4x 0 rfl (x4x 1 rfl Cov.nil)) HE.nil 0 ⟨by omega, by omega, rfl⟩ [] (x4x 5 rfl Cov.nil) HE.nil rfl fun i γ1 hi => ?_
 try dsimp only [List.cons_append, List.nil_append]
 obtain ⟨h1, h2, h3⟩ := hi
 refine x7x fun K4 hK4 => ?_
 refine x6x x9x (by rfl) ?_
 refine x1x rfl ?_
 refine x1x rfl ?_
 refine u3u rfl u4u rfl ?_
 refine y4y rfl rfl rfl ?_
 refine y0y rfl (fun hc5 => ?_) (fun hc5 => ?_)
 rotate_left
 ·try simp at hc5
  refine v0v ?_
  refine hK3 _ _ ?_
  clear hK4 K4 hK3 K3
  refine x6x x9x (by rfl) ?_
  refine x2x rfl ?_
  refine y3y ⟨.inr rfl, ?_⟩
  refine z2z rfl ?_ rfl
  exact eqT h3 (by omega) (by omega)
 try simp at hc5
 refine y1y ?_
 refine hK4 _ _ ?_
 clear hK4 K4
 refine x7x fun K6 hK6 => ?_
 refine y6y ?_
 refine q5q x9x r6r (by rfl) ?_
 refine x1x rfl ?_
 refine x1x rfl ?_
 obtain ⟨x, hx⟩ : ∃ x, l[i]? = some x := w5w (by omega)
 refine u0u rfl rfl u4u rfl z3z rfl hx ?_
 refine z5z rfl z3z rfl rfl ?_
 refine x1x rfl ?_
 refine x1x rfl ?_
 obtain ⟨y, hy⟩ : ∃ y, l'[i]? = some y := w5w (by omega)
 refine u0u rfl rfl u4u rfl z3z rfl hy ?_
 refine z5z rfl z3z rfl rfl ?_
 refine z1z rfl rfl rfl (b1h ..) ?_
 refine w6w rfl ?_
 refine ⟨by kernel_rfl, ?_⟩
 refine y0y rfl (fun hc7 => ?_) (fun hc7 => ?_)
 rotate_left
 ·try simp at hc7
  refine y1y ?_
  refine hK6 _ _ ?_
  clear hK6 K6
  refine y2y x9x (by rfl) ?_
  refine x1x rfl ?_
  refine a2g (.int .i64 ((i + 1 : Nat) : Int)) rfl rfl rfl (a9k rfl (by omega) (by omega) (by have := hlen; omega)) ?_
  refine x2x rfl ?_
  exact ⟨i + 1, ⟨⟨by omega, h2, a3y h3 hx hy (by assumption)⟩, by omega⟩, [], (x4x 5 rfl Cov.nil), (x4x 0 rfl (x4x 1 rfl Cov.nil)), HE.nil, HE.nil, rfl⟩
 try simp at hc7
 refine x6x x9x (by rfl) ?_
 refine x2x rfl ?_
 refine y3y ⟨.inr rfl, ?_⟩
 clear hK6 K6 hK3 K3
 refine z2z rfl ?_ rfl
 exact d3y hx hy (by assumption)
theorem b3v (c c' : Bool) (l l' : List Ou) : a0z Tryz.prog 85 [a1j c l, a1j c' l'] (.pv (.bool (decide (l = l')))) := by
 refine z4z x9x (fn := Tryz.f85) (by kernel_rfl) (by kernel_rfl) rfl (outs := [.pv (.bool (decide (l = l')))]) (by rfl) (v7v rfl) 0 ?_
 refine w4w 0 rfl fun hlen => ?_
 refine x6x x9x (by rfl) ?_
 refine x2x rfl ?_
 refine x7x fun K1 hK1 => ?_
 refine x6x x9x (by rfl) ?_
 refine x1x rfl ?_
 refine u3u rfl p9p rfl ?_
 refine x1x rfl ?_
 refine u3u rfl p9p rfl ?_
 refine y4y rfl rfl rfl ?_
 refine y0y rfl (fun hc2 => ?_) (fun hc2 => ?_)
 ·try simp at hc2
  refine x6x x9x (by rfl) ?_
  refine x2x rfl ?_
  refine y3y ⟨.inr rfl, ?_⟩
  clear hK1 K1
  refine z2z rfl ?_ rfl
  exact d3x (by omega)
 try simp at hc2
 refine y1y ?_
 refine hK1 _ _ ?_
 clear hK1 K1
 refine x7x fun K3 hK3 => ?_
 refine x6x x9x (by rfl) ?_
 refine x2x rfl ?_
 refine y6y ?_
 refine u5u (ι := Nat) (fun i γ1 => [(5, .pv (.int .i64 (i : Int)))]) (fun i γ1 => []) (fun i => i ≤ l.length ∧ l.length = l'.length ∧ l.take i = l'.take i) (fun i => l.length - i) (x4x 0 rfl (x4x 1 rfl Cov.nil)) HE.nil 0 ⟨by omega, by omega, rfl⟩ [] (x4x 5 rfl Cov.nil) HE.nil rfl fun i γ1 hi => ?_
 try dsimp only [List.cons_append, List.nil_append]
 obtain ⟨h1, h2, h3⟩ := hi
 refine x7x fun K4 hK4 => ?_
 refine x6x x9x (by rfl) ?_
 refine x1x rfl ?_
 refine x1x rfl ?_
 refine u3u rfl p9p rfl ?_
 refine y4y rfl rfl rfl ?_
 refine y0y rfl (fun hc5 => ?_) (fun hc5 => ?_)
 rotate_left
 ·try simp at hc5
  refine v0v ?_
  refine hK3 _ _ ?_
  clear hK4 K4 hK3 K3
  refine x6x x9x (by rfl) ?_
  refine x2x rfl ?_
  refine y3y ⟨.inr rfl, ?_⟩
  refine z2z rfl ?_ rfl
  exact eqT h3 (by omega) (by omega)
 try simp at hc5
 refine y1y ?_
 refine hK4 _ _ ?_
 clear hK4 K4
 refine x7x fun K6 hK6 => ?_
 refine y6y ?_
 refine q5q x9x r6r (by rfl) ?_
 refine x1x rfl ?_
 refine x1x rfl ?_
 obtain ⟨x, hx⟩ : ∃ x, l[i]? = some x := w5w (by omega)
 refine u0u rfl rfl p9p rfl v5v rfl hx ?_
 refine z5z rfl v5v rfl rfl ?_
 refine x1x rfl ?_
 refine x1x rfl ?_
 obtain ⟨y, hy⟩ : ∃ y, l'[i]? = some y := w5w (by omega)
 refine u0u rfl rfl p9p rfl v5v rfl hy ?_
 refine z5z rfl v5v rfl rfl ?_
 refine z1z rfl rfl rfl (c4j ..) ?_
 refine w6w rfl ?_
 refine ⟨by kernel_rfl, ?_⟩
 refine y0y rfl (fun hc7 => ?_) (fun hc7 => ?_)
 rotate_left
 ·try simp at hc7
  refine y1y ?_
  refine hK6 _ _ ?_
  clear hK6 K6
  refine y2y x9x (by rfl) ?_
  refine x1x rfl ?_
  refine a2g (.int .i64 ((i + 1 : Nat) : Int)) rfl rfl rfl (a9k rfl (by omega) (by omega) (by have := hlen; omega)) ?_
  refine x2x rfl ?_
  exact ⟨i + 1, ⟨⟨by omega, h2, a3y h3 hx hy (by assumption)⟩, by omega⟩, [], (x4x 5 rfl Cov.nil), (x4x 0 rfl (x4x 1 rfl Cov.nil)), HE.nil, HE.nil, rfl⟩
 try simp at hc7
 refine x6x x9x (by rfl) ?_
 refine x2x rfl ?_
 refine y3y ⟨.inr rfl, ?_⟩
 clear hK6 K6 hK3 K3
 refine z2z rfl ?_ rfl
 exact d3y hx hy (by assumption)
theorem c1u (c c' : Bool) (a b : Pa) : a0z Tryz.prog 251 [.agg (a0s c a), .agg (a0s c' b)] (.pv (.bool (decide (a = b)))) := by
 refine z4z x9x (fn := Tryz.f251) (by kernel_rfl) (by kernel_rfl) rfl (outs := [.pv (.bool (decide (a = b)))]) (by rfl) (v7v rfl) 2 ?_
 refine x6x x9x (by rfl) ?_
 refine v4v (id := 0) rfl rfl rfl ?_
 refine v4v (id := 1) rfl rfl rfl ?_
 refine x2x rfl ?_
 refine x7x fun K1 hK1 => ?_
 refine x6x x9x (by rfl) ?_
 refine x0x rfl w1w rfl rfl z3z rfl rfl ?_
 refine x3x (out := .agg (v9v a.ev)) rfl z3z rfl rfl ?_
 refine x0x rfl w1w rfl rfl z3z rfl rfl ?_
 refine x3x (out := .agg (v9v b.ev)) rfl z3z rfl rfl ?_
 refine z1z rfl rfl rfl (b1h ..) ?_
 refine w6w rfl ?_
 refine y0y rfl (fun hc2 => ?_) (fun hc2 => ?_)
 ·try simp at hc2
  refine x6x x9x (by rfl) ?_
  refine x2x rfl ?_
  refine y3y ⟨.inr rfl, ?_⟩
  clear hK1 K1
  refine z2z rfl ?_ rfl
  exact kF (by intro h; subst h; simp_all)
 try simp at hc2
 refine y1y ?_
 refine hK1 _ _ ?_
 clear hK1 K1
 refine x7x fun K3 hK3 => ?_
 refine x6x x9x (by rfl) ?_
 refine x0x rfl w1w rfl rfl r4r rfl rfl ?_
 refine x3x (out := .agg (s9s a.after)) rfl r4r rfl rfl ?_
 refine x0x rfl w1w rfl rfl r4r rfl rfl ?_
 refine x3x (out := .agg (s9s b.after)) rfl r4r rfl rfl ?_
 refine z1z rfl rfl rfl (b1i ..) ?_
 refine w6w rfl ?_
 refine y0y rfl (fun hc4 => ?_) (fun hc4 => ?_)
 ·try simp at hc4
  refine x6x x9x (by rfl) ?_
  refine x2x rfl ?_
  refine y3y ⟨.inr rfl, ?_⟩
  clear hK3 K3
  refine z2z rfl ?_ rfl
  exact kF (by intro h; subst h; simp_all)
 try simp at hc4
 refine y1y ?_
 refine hK3 _ _ ?_
 clear hK3 K3
 refine x7x fun K5 hK5 => ?_
 refine x6x x9x (by rfl) ?_
 refine x0x rfl w1w rfl rfl u4u rfl rfl ?_
 refine x3x rfl u4u rfl rfl ?_
 refine x0x rfl w1w rfl rfl u4u rfl rfl ?_
 refine x3x rfl u4u rfl rfl ?_
 refine z1z rfl rfl rfl (a3z ..) ?_
 refine w6w rfl ?_
 refine y0y rfl (fun hc6 => ?_) (fun hc6 => ?_)
 ·try simp at hc6
  refine x6x x9x (by rfl) ?_
  refine x2x rfl ?_
  refine y3y ⟨.inr rfl, ?_⟩
  clear hK5 K5
  refine z2z rfl ?_ rfl
  exact kF (by intro h; subst h; simp_all)
 try simp at hc6
 refine y1y ?_
 refine hK5 _ _ ?_
 clear hK5 K5
 refine x7x fun K7 hK7 => ?_
 refine x6x x9x (by rfl) ?_
 refine x0x rfl w1w rfl rfl p9p rfl rfl ?_
 refine x3x rfl p9p rfl rfl ?_
 refine x0x rfl w1w rfl rfl p9p rfl rfl ?_
 refine x3x rfl p9p rfl rfl ?_
 refine z1z rfl rfl rfl (b3v ..) ?_
 refine w6w rfl ?_
 refine y0y rfl (fun hc8 => ?_) (fun hc8 => ?_)
 ·try simp at hc8
  refine x6x x9x (by rfl) ?_
  refine x2x rfl ?_
  refine y3y ⟨.inr rfl, ?_⟩
  clear hK7 K7
  refine z2z rfl ?_ rfl
  exact kF (by intro h; subst h; simp_all)
 try simp at hc8
 refine y1y ?_
 refine hK7 _ _ ?_
 clear hK7 K7
 refine x6x x9x (by rfl) ?_
 refine x2x rfl ?_
 refine y3y ⟨.inr rfl, ?_⟩
 refine z2z rfl ?_ rfl
 exact kT (by cases a; cases b; simp_all)
theorem b8x (c c' : Bool) (l l' : List Pa) : a0z Tryz.prog 225 [a3p c l, a3p c' l'] (.pv (.bool (decide (l = l')))) := by
 refine z4z x9x (fn := Tryz.f225) (by kernel_rfl) (by kernel_rfl) rfl (outs := [.pv (.bool (decide (l = l')))]) (by rfl) (v7v rfl) 0 ?_
 refine w4w 0 rfl fun hlen => ?_
 refine x6x x9x (by rfl) ?_
 refine x2x rfl ?_
 refine x7x fun K1 hK1 => ?_
 refine x6x x9x (by rfl) ?_
 refine x1x rfl ?_
 refine u3u rfl w0w rfl ?_
 refine x1x rfl ?_
 refine u3u rfl w0w rfl ?_
 refine y4y rfl rfl rfl ?_
 refine y0y rfl (fun hc2 => ?_) (fun hc2 => ?_)
 ·try simp at hc2
  refine x6x x9x (by rfl) ?_
  refine x2x rfl ?_
  refine y3y ⟨.inr rfl, ?_⟩
  clear hK1 K1
  refine z2z rfl ?_ rfl
  exact d3x (by omega)
 try simp at hc2
 refine y1y ?_
 refine hK1 _ _ ?_
 clear hK1 K1
 refine x7x fun K3 hK3 => ?_
 refine x6x x9x (by rfl) ?_
 refine x2x rfl ?_
 refine y6y ?_
 refine u5u (ι := Nat) (fun i γ1 => [(5, .pv (.int .i64 (i : Int)))]) (fun i γ1 => []) (fun i => i ≤ l.length ∧ l.length = l'.length ∧ l.take i = l'.take i) (fun i => l.length - i) (x4x 0 rfl (x4x 1 rfl Cov.nil)) HE.nil 0 ⟨by omega, by omega, rfl⟩ [] (x4x 5 rfl Cov.nil) HE.nil rfl fun i γ1 hi => ?_
 try dsimp only [List.cons_append, List.nil_append]
 obtain ⟨h1, h2, h3⟩ := hi
 refine x7x fun K4 hK4 => ?_
 refine x6x x9x (by rfl) ?_
 refine x1x rfl ?_
 refine x1x rfl ?_
 refine u3u rfl w0w rfl ?_
 refine y4y rfl rfl rfl ?_
 refine y0y rfl (fun hc5 => ?_) (fun hc5 => ?_)
 rotate_left
 ·try simp at hc5
  refine v0v ?_
  refine hK3 _ _ ?_
  clear hK4 K4 hK3 K3
  refine x6x x9x (by rfl) ?_
  refine x2x rfl ?_
  refine y3y ⟨.inr rfl, ?_⟩
  refine z2z rfl ?_ rfl
  exact eqT h3 (by omega) (by omega)
 try simp at hc5
 refine y1y ?_
 refine hK4 _ _ ?_
 clear hK4 K4
 refine x7x fun K6 hK6 => ?_
 refine y6y ?_
 refine q5q x9x r6r (by rfl) ?_
 refine x1x rfl ?_
 refine x1x rfl ?_
 obtain ⟨x, hx⟩ : ∃ x, l[i]? = some x := w5w (by omega)
 refine u0u rfl rfl w0w rfl w1w rfl hx ?_
 refine z5z rfl w1w rfl rfl ?_
 refine x1x rfl ?_
 refine x1x rfl ?_
 obtain ⟨y, hy⟩ : ∃ y, l'[i]? = some y := w5w (by omega)
 refine u0u rfl rfl w0w rfl w1w rfl hy ?_
 refine z5z rfl w1w rfl rfl ?_
 refine z1z rfl rfl rfl (c1u ..) ?_
 refine w6w rfl ?_
 refine ⟨by kernel_rfl, ?_⟩
 refine y0y rfl (fun hc7 => ?_) (fun hc7 => ?_)
 rotate_left
 ·try simp at hc7
  refine y1y ?_
  refine hK6 _ _ ?_
  clear hK6 K6
  refine y2y x9x (by rfl) ?_
  refine x1x rfl ?_
  refine a2g (.int .i64 ((i + 1 : Nat) : Int)) rfl rfl rfl (a9k rfl (by omega) (by omega) (by have := hlen; omega)) ?_
  refine x2x rfl ?_
  exact ⟨i + 1, ⟨⟨by omega, h2, a3y h3 hx hy (by assumption)⟩, by omega⟩, [], (x4x 5 rfl Cov.nil), (x4x 0 rfl (x4x 1 rfl Cov.nil)), HE.nil, HE.nil, rfl⟩
 try simp at hc7
 refine x6x x9x (by rfl) ?_
 refine x2x rfl ?_
 refine y3y ⟨.inr rfl, ?_⟩
 clear hK6 K6 hK3 K3
 refine z2z rfl ?_ rfl
 exact d3y hx hy (by assumption)
theorem c1v (c c' : Bool) (a b : La) : a0z Tryz.prog 176 [.agg (a0v c a), .agg (a0v c' b)] (.pv (.bool (decide (a = b)))) := by
 refine z4z x9x (fn := Tryz.f176) (by kernel_rfl) (by kernel_rfl) rfl (outs := [.pv (.bool (decide (a = b)))]) (by rfl) (v7v rfl) 2 ?_
 refine x6x x9x (by rfl) ?_
 refine v4v (id := 0) rfl rfl rfl ?_
 refine v4v (id := 1) rfl rfl rfl ?_
 refine x2x rfl ?_
 refine x7x fun K1 hK1 => ?_
 refine x6x x9x (by rfl) ?_
 refine x0x rfl v8v rfl rfl y9y rfl rfl ?_
 refine x3x rfl y9y rfl rfl ?_
 refine x0x rfl v8v rfl rfl y9y rfl rfl ?_
 refine x3x rfl y9y rfl rfl ?_
 refine y4y rfl rfl rfl ?_
 refine y0y rfl (fun hc2 => ?_) (fun hc2 => ?_)
 ·try simp at hc2
  refine x6x x9x (by rfl) ?_
  refine x2x rfl ?_
  refine y3y ⟨.inr rfl, ?_⟩
  clear hK1 K1
  refine z2z rfl ?_ rfl
  exact kF (by intro h; subst h; simp_all)
 try simp at hc2
 refine y1y ?_
 refine hK1 _ _ ?_
 clear hK1 K1
 refine x7x fun K3 hK3 => ?_
 refine x6x x9x (by rfl) ?_
 refine x0x rfl v8v rfl rfl r4r rfl rfl ?_
 refine x3x (out := .agg (s9s a.base)) rfl r4r rfl rfl ?_
 refine x0x rfl v8v rfl rfl r4r rfl rfl ?_
 refine x3x (out := .agg (s9s b.base)) rfl r4r rfl rfl ?_
 refine z1z rfl rfl rfl (b1i ..) ?_
 refine w6w rfl ?_
 refine y0y rfl (fun hc4 => ?_) (fun hc4 => ?_)
 ·try simp at hc4
  refine x6x x9x (by rfl) ?_
  refine x2x rfl ?_
  refine y3y ⟨.inr rfl, ?_⟩
  clear hK3 K3
  refine z2z rfl ?_ rfl
  exact kF (by intro h; subst h; simp_all)
 try simp at hc4
 refine y1y ?_
 refine hK3 _ _ ?_
 clear hK3 K3
 refine x7x fun K5 hK5 => ?_
 refine x6x x9x (by rfl) ?_
 refine x0x rfl v8v rfl rfl w0w rfl rfl ?_
 refine x3x rfl w0w rfl rfl ?_
 refine x0x rfl v8v rfl rfl w0w rfl rfl ?_
 refine x3x rfl w0w rfl rfl ?_
 refine z1z rfl rfl rfl (b8x ..) ?_
 refine w6w rfl ?_
 refine y0y rfl (fun hc6 => ?_) (fun hc6 => ?_)
 ·try simp at hc6
  refine x6x x9x (by rfl) ?_
  refine x2x rfl ?_
  refine y3y ⟨.inr rfl, ?_⟩
  clear hK5 K5
  refine z2z rfl ?_ rfl
  exact kF (by intro h; subst h; simp_all)
 try simp at hc6
 refine y1y ?_
 refine hK5 _ _ ?_
 clear hK5 K5
 refine x6x x9x (by rfl) ?_
 refine x2x rfl ?_
 refine y3y ⟨.inr rfl, ?_⟩
 refine z2z rfl ?_ rfl
 exact kT (by cases a; cases b; simp_all)
theorem b8y (c c' : Bool) (l l' : List La) : a0z Tryz.prog 84 [c1q c l, c1q c' l'] (.pv (.bool (decide (l = l')))) := by
 refine z4z x9x (fn := Tryz.f84) (by kernel_rfl) (by kernel_rfl) rfl (outs := [.pv (.bool (decide (l = l')))]) (by rfl) (v7v rfl) 0 ?_
 refine w4w 0 rfl fun hlen => ?_
 refine x6x x9x (by rfl) ?_
 refine x2x rfl ?_
 refine x7x fun K1 hK1 => ?_
 refine x6x x9x (by rfl) ?_
 refine x1x rfl ?_
 refine u3u rfl w2w rfl ?_
 refine x1x rfl ?_
 refine u3u rfl w2w rfl ?_
 refine y4y rfl rfl rfl ?_
 refine y0y rfl (fun hc2 => ?_) (fun hc2 => ?_)
 ·try simp at hc2
  refine x6x x9x (by rfl) ?_
  refine x2x rfl ?_
  refine y3y ⟨.inr rfl, ?_⟩
  clear hK1 K1
  refine z2z rfl ?_ rfl
  exact d3x (by omega)
 try simp at hc2
 refine y1y ?_
 refine hK1 _ _ ?_
 clear hK1 K1
 refine x7x fun K3 hK3 => ?_
 refine x6x x9x (by rfl) ?_
 refine x2x rfl ?_
 refine y6y ?_
 refine u5u (ι := Nat) (fun i γ1 => [(5, .pv (.int .i64 (i : Int)))]) (fun i γ1 => []) (fun i => i ≤ l.length ∧ l.length = l'.length ∧ l.take i = l'.take i) (fun i => l.length - i) (x4x 0 rfl (x4x 1 rfl Cov.nil)) HE.nil 0 ⟨by omega, by omega, rfl⟩ [] (x4x 5 rfl Cov.nil) HE.nil rfl fun i γ1 hi => ?_
 try dsimp only [List.cons_append, List.nil_append]
 obtain ⟨h1, h2, h3⟩ := hi
 refine x7x fun K4 hK4 => ?_
 refine x6x x9x (by rfl) ?_
 refine x1x rfl ?_
 refine x1x rfl ?_
 refine u3u rfl w2w rfl ?_
 refine y4y rfl rfl rfl ?_
 refine y0y rfl (fun hc5 => ?_) (fun hc5 => ?_)
 rotate_left
 ·try simp at hc5
  refine v0v ?_
  refine hK3 _ _ ?_
  clear hK4 K4 hK3 K3
  refine x6x x9x (by rfl) ?_
  refine x2x rfl ?_
  refine y3y ⟨.inr rfl, ?_⟩
  refine z2z rfl ?_ rfl
  exact eqT h3 (by omega) (by omega)
 try simp at hc5
 refine y1y ?_
 refine hK4 _ _ ?_
 clear hK4 K4
 refine x7x fun K6 hK6 => ?_
 refine y6y ?_
 refine q5q x9x r6r (by rfl) ?_
 refine x1x rfl ?_
 refine x1x rfl ?_
 obtain ⟨x, hx⟩ : ∃ x, l[i]? = some x := w5w (by omega)
 refine u0u rfl rfl w2w rfl v8v rfl hx ?_
 refine z5z rfl v8v rfl rfl ?_
 refine x1x rfl ?_
 refine x1x rfl ?_
 obtain ⟨y, hy⟩ : ∃ y, l'[i]? = some y := w5w (by omega)
 refine u0u rfl rfl w2w rfl v8v rfl hy ?_
 refine z5z rfl v8v rfl rfl ?_
 refine z1z rfl rfl rfl (c1v ..) ?_
 refine w6w rfl ?_
 refine ⟨by kernel_rfl, ?_⟩
 refine y0y rfl (fun hc7 => ?_) (fun hc7 => ?_)
 rotate_left
 ·try simp at hc7
  refine y1y ?_
  refine hK6 _ _ ?_
  clear hK6 K6
  refine y2y x9x (by rfl) ?_
  refine x1x rfl ?_
  refine a2g (.int .i64 ((i + 1 : Nat) : Int)) rfl rfl rfl (a9k rfl (by omega) (by omega) (by have := hlen; omega)) ?_
  refine x2x rfl ?_
  exact ⟨i + 1, ⟨⟨by omega, h2, a3y h3 hx hy (by assumption)⟩, by omega⟩, [], (x4x 5 rfl Cov.nil), (x4x 0 rfl (x4x 1 rfl Cov.nil)), HE.nil, HE.nil, rfl⟩
 try simp at hc7
 refine x6x x9x (by rfl) ?_
 refine x2x rfl ?_
 refine y3y ⟨.inr rfl, ?_⟩
 clear hK6 K6 hK3 K3
 refine z2z rfl ?_ rfl
 exact d3y hx hy (by assumption)
theorem c1w (c c' : Bool) (a b : Vi) : a0z Tryz.prog 178 [.agg (a1n c a), .agg (a1n c' b)] (.pv (.bool (decide (a = b)))) := by
 refine z4z x9x (fn := Tryz.f178) (by kernel_rfl) (by kernel_rfl) rfl (outs := [.pv (.bool (decide (a = b)))]) (by rfl) (v7v rfl) 2 ?_
 refine x6x x9x (by rfl) ?_
 refine v4v (id := 0) rfl rfl rfl ?_
 refine v4v (id := 1) rfl rfl rfl ?_
 refine x2x rfl ?_
 refine x7x fun K1 hK1 => ?_
 refine x6x x9x (by rfl) ?_
 refine x0x rfl v6v rfl rfl y9y rfl rfl ?_
 refine x3x rfl y9y rfl rfl ?_
 refine x0x rfl v6v rfl rfl y9y rfl rfl ?_
 refine x3x rfl y9y rfl rfl ?_
 refine y4y rfl rfl rfl ?_
 refine y0y rfl (fun hc2 => ?_) (fun hc2 => ?_)
 ·try simp at hc2
  refine x6x x9x (by rfl) ?_
  refine x2x rfl ?_
  refine y3y ⟨.inr rfl, ?_⟩
  clear hK1 K1
  refine z2z rfl ?_ rfl
  exact kF (by intro h; subst h; simp_all)
 try simp at hc2
 refine y1y ?_
 refine hK1 _ _ ?_
 clear hK1 K1
 refine x7x fun K3 hK3 => ?_
 refine x6x x9x (by rfl) ?_
 refine x0x rfl v6v rfl rfl y9y rfl rfl ?_
 refine x3x rfl y9y rfl rfl ?_
 refine x0x rfl v6v rfl rfl y9y rfl rfl ?_
 refine x3x rfl y9y rfl rfl ?_
 refine y4y rfl rfl rfl ?_
 refine y0y rfl (fun hc4 => ?_) (fun hc4 => ?_)
 ·try simp at hc4
  refine x6x x9x (by rfl) ?_
  refine x2x rfl ?_
  refine y3y ⟨.inr rfl, ?_⟩
  clear hK3 K3
  refine z2z rfl ?_ rfl
  exact kF (by intro h; subst h; simp_all)
 try simp at hc4
 refine y1y ?_
 refine hK3 _ _ ?_
 clear hK3 K3
 refine x7x fun K5 hK5 => ?_
 refine x6x x9x (by rfl) ?_
 refine x0x rfl v6v rfl rfl u4u rfl rfl ?_
 refine x3x rfl u4u rfl rfl ?_
 refine x0x rfl v6v rfl rfl u4u rfl rfl ?_
 refine x3x rfl u4u rfl rfl ?_
 refine z1z rfl rfl rfl (a3z ..) ?_
 refine w6w rfl ?_
 refine y0y rfl (fun hc6 => ?_) (fun hc6 => ?_)
 ·try simp at hc6
  refine x6x x9x (by rfl) ?_
  refine x2x rfl ?_
  refine y3y ⟨.inr rfl, ?_⟩
  clear hK5 K5
  refine z2z rfl ?_ rfl
  exact kF (by intro h; subst h; simp_all)
 try simp at hc6
 refine y1y ?_
 refine hK5 _ _ ?_
 clear hK5 K5
 refine x6x x9x (by rfl) ?_
 refine x2x rfl ?_
 refine y3y ⟨.inr rfl, ?_⟩
 refine z2z rfl ?_ rfl
 exact kT (by cases a; cases b; simp_all)
theorem b8z (c c' : Bool) (l l' : List Vi) : a0z Tryz.prog 86 [c1r c l, c1r c' l'] (.pv (.bool (decide (l = l')))) := by
 refine z4z x9x (fn := Tryz.f86) (by kernel_rfl) (by kernel_rfl) rfl (outs := [.pv (.bool (decide (l = l')))]) (by rfl) (v7v rfl) 0 ?_
 refine w4w 0 rfl fun hlen => ?_
 refine x6x x9x (by rfl) ?_
 refine x2x rfl ?_
 refine x7x fun K1 hK1 => ?_
 refine x6x x9x (by rfl) ?_
 refine x1x rfl ?_
 refine u3u rfl p1p rfl ?_
 refine x1x rfl ?_
 refine u3u rfl p1p rfl ?_
 refine y4y rfl rfl rfl ?_
 refine y0y rfl (fun hc2 => ?_) (fun hc2 => ?_)
 ·try simp at hc2
  refine x6x x9x (by rfl) ?_
  refine x2x rfl ?_
  refine y3y ⟨.inr rfl, ?_⟩
  clear hK1 K1
  refine z2z rfl ?_ rfl
  exact d3x (by omega)
 try simp at hc2
 refine y1y ?_
 refine hK1 _ _ ?_
 clear hK1 K1
 refine x7x fun K3 hK3 => ?_
 refine x6x x9x (by rfl) ?_
 refine x2x rfl ?_
 refine y6y ?_
 refine u5u (ι := Nat) (fun i γ1 => [(5, .pv (.int .i64 (i : Int)))]) (fun i γ1 => []) (fun i => i ≤ l.length ∧ l.length = l'.length ∧ l.take i = l'.take i) (fun i => l.length - i) (x4x 0 rfl (x4x 1 rfl Cov.nil)) HE.nil 0 ⟨by omega, by omega, rfl⟩ [] (x4x 5 rfl Cov.nil) HE.nil rfl fun i γ1 hi => ?_
 try dsimp only [List.cons_append, List.nil_append]
 obtain ⟨h1, h2, h3⟩ := hi
 refine x7x fun K4 hK4 => ?_
 refine x6x x9x (by rfl) ?_
 refine x1x rfl ?_
 refine x1x rfl ?_
 refine u3u rfl p1p rfl ?_
 refine y4y rfl rfl rfl ?_
 refine y0y rfl (fun hc5 => ?_) (fun hc5 => ?_)
 rotate_left
 ·try simp at hc5
  refine v0v ?_
  refine hK3 _ _ ?_
  clear hK4 K4 hK3 K3
  refine x6x x9x (by rfl) ?_
  refine x2x rfl ?_
  refine y3y ⟨.inr rfl, ?_⟩
  refine z2z rfl ?_ rfl
  exact eqT h3 (by omega) (by omega)
 try simp at hc5
 refine y1y ?_
 refine hK4 _ _ ?_
 clear hK4 K4
 refine x7x fun K6 hK6 => ?_
 refine y6y ?_
 refine q5q x9x r6r (by rfl) ?_
 refine x1x rfl ?_
 refine x1x rfl ?_
 obtain ⟨x, hx⟩ : ∃ x, l[i]? = some x := w5w (by omega)
 refine u0u rfl rfl p1p rfl v6v rfl hx ?_
 refine z5z rfl v6v rfl rfl ?_
 refine x1x rfl ?_
 refine x1x rfl ?_
 obtain ⟨y, hy⟩ : ∃ y, l'[i]? = some y := w5w (by omega)
 refine u0u rfl rfl p1p rfl v6v rfl hy ?_
 refine z5z rfl v6v rfl rfl ?_
 refine z1z rfl rfl rfl (c1w ..) ?_
 refine w6w rfl ?_
 refine ⟨by kernel_rfl, ?_⟩
 refine y0y rfl (fun hc7 => ?_) (fun hc7 => ?_)
 rotate_left
 ·try simp at hc7
  refine y1y ?_
  refine hK6 _ _ ?_
  clear hK6 K6
  refine y2y x9x (by rfl) ?_
  refine x1x rfl ?_
  refine a2g (.int .i64 ((i + 1 : Nat) : Int)) rfl rfl rfl (a9k rfl (by omega) (by omega) (by have := hlen; omega)) ?_
  refine x2x rfl ?_
  exact ⟨i + 1, ⟨⟨by omega, h2, a3y h3 hx hy (by assumption)⟩, by omega⟩, [], (x4x 5 rfl Cov.nil), (x4x 0 rfl (x4x 1 rfl Cov.nil)), HE.nil, HE.nil, rfl⟩
 try simp at hc7
 refine x6x x9x (by rfl) ?_
 refine x2x rfl ?_
 refine y3y ⟨.inr rfl, ?_⟩
 clear hK6 K6 hK3 K3
 refine z2z rfl ?_ rfl
 exact d3y hx hy (by assumption)
theorem a5p (c c' : Bool) (a b : Nd) : a0z Tryz.prog 18 [.agg (a1i c a), .agg (a1i c' b)] (.pv (.bool (decide (a = b)))) := by
 refine z4z x9x (fn := Tryz.f18) (by kernel_rfl) (by kernel_rfl) rfl (outs := [.pv (.bool (decide (a = b)))]) (by rfl) (v7v rfl) 2 ?_
 refine x6x x9x (by rfl) ?_
 refine v4v (id := 0) rfl rfl rfl ?_
 refine v4v (id := 1) rfl rfl rfl ?_
 refine x2x rfl ?_
 refine x7x fun K1 hK1 => ?_
 refine x6x x9x (by rfl) ?_
 refine x0x rfl z6z rfl rfl y9y rfl rfl ?_
 refine x3x rfl y9y rfl rfl ?_
 refine x0x rfl z6z rfl rfl y9y rfl rfl ?_
 refine x3x rfl y9y rfl rfl ?_
 refine y4y rfl rfl rfl ?_
 refine y0y rfl (fun hc2 => ?_) (fun hc2 => ?_)
 ·try simp at hc2
  refine x6x x9x (by rfl) ?_
  refine x2x rfl ?_
  refine y3y ⟨.inr rfl, ?_⟩
  clear hK1 K1
  refine z2z rfl ?_ rfl
  exact kF (by intro h; subst h; simp_all)
 try simp at hc2
 refine y1y ?_
 refine hK1 _ _ ?_
 clear hK1 K1
 refine x7x fun K3 hK3 => ?_
 refine x6x x9x (by rfl) ?_
 refine x0x rfl z6z rfl rfl b5n rfl rfl ?_
 refine x3x rfl b5n rfl rfl ?_
 refine x0x rfl z6z rfl rfl b5n rfl rfl ?_
 refine x3x rfl b5n rfl rfl ?_
 refine a8p rfl rfl (by intro p q h h'; cases h; cases h'; rfl) (.inr rfl) (d2w Tryz.underlying4 _ _ _ _) ?_
 refine y0y rfl (fun hc4 => ?_) (fun hc4 => ?_)
 ·try simp at hc4
  refine x6x x9x (by rfl) ?_
  refine x2x rfl ?_
  refine y3y ⟨.inr rfl, ?_⟩
  clear hK3 K3
  refine z2z rfl ?_ rfl
  exact kF (by intro h; subst h; simp_all)
 try simp at hc4
 refine y1y ?_
 refine hK3 _ _ ?_
 clear hK3 K3
 refine x7x fun K5 hK5 => ?_
 refine x6x x9x (by rfl) ?_
 refine x0x rfl z6z rfl rfl y9y rfl rfl ?_
 refine x3x rfl y9y rfl rfl ?_
 refine x0x rfl z6z rfl rfl y9y rfl rfl ?_
 refine x3x rfl y9y rfl rfl ?_
 refine y4y rfl rfl rfl ?_
 refine y0y rfl (fun hc6 => ?_) (fun hc6 => ?_)
 ·try simp at hc6
  refine x6x x9x (by rfl) ?_
  refine x2x rfl ?_
  refine y3y ⟨.inr rfl, ?_⟩
  clear hK5 K5
  refine z2z rfl ?_ rfl
  exact kF (by intro h; subst h; simp_all)
 try simp at hc6
 refine y1y ?_
 refine hK5 _ _ ?_
 clear hK5 K5
 refine x7x fun K7 hK7 => ?_
 refine x6x x9x (by rfl) ?_
 refine x0x rfl z6z rfl rfl y9y rfl rfl ?_
 refine x3x rfl y9y rfl rfl ?_
 refine x0x rfl z6z rfl rfl y9y rfl rfl ?_
 refine x3x rfl y9y rfl rfl ?_
 refine y4y rfl rfl rfl ?_
 refine y0y rfl (fun hc8 => ?_) (fun hc8 => ?_)
 ·try simp at hc8
  refine x6x x9x (by rfl) ?_
  refine x2x rfl ?_
  refine y3y ⟨.inr rfl, ?_⟩
  clear hK7 K7
  refine z2z rfl ?_ rfl
  exact kF (by intro h; subst h; simp_all)
 try simp at hc8
 refine y1y ?_
 refine hK7 _ _ ?_
 clear hK7 K7
 refine x7x fun K9 hK9 => ?_
 refine x6x x9x (by rfl) ?_
 refine x0x rfl z6z rfl rfl w2w rfl rfl ?_
 refine x3x rfl w2w rfl rfl ?_
 refine x0x rfl z6z rfl rfl w2w rfl rfl ?_
 refine x3x rfl w2w rfl rfl ?_
 refine z1z rfl rfl rfl (b8y ..) ?_
 refine w6w rfl ?_
 refine y0y rfl (fun hc10 => ?_) (fun hc10 => ?_)
 ·try simp at hc10
  refine x6x x9x (by rfl) ?_
  refine x2x rfl ?_
  refine y3y ⟨.inr rfl, ?_⟩
  clear hK9 K9
  refine z2z rfl ?_ rfl
  exact kF (by intro h; subst h; simp_all)
 try simp at hc10
 refine y1y ?_
 refine hK9 _ _ ?_
 clear hK9 K9
 refine x7x fun K11 hK11 => ?_
 refine x6x x9x (by rfl) ?_
 refine x0x rfl z6z rfl rfl u4u rfl rfl ?_
 refine x3x rfl u4u rfl rfl ?_
 refine x0x rfl z6z rfl rfl u4u rfl rfl ?_
 refine x3x rfl u4u rfl rfl ?_
 refine z1z rfl rfl rfl (a3z ..) ?_
 refine w6w rfl ?_
 refine y0y rfl (fun hc12 => ?_) (fun hc12 => ?_)
 ·try simp at hc12
  refine x6x x9x (by rfl) ?_
  refine x2x rfl ?_
  refine y3y ⟨.inr rfl, ?_⟩
  clear hK11 K11
  refine z2z rfl ?_ rfl
  exact kF (by intro h; subst h; simp_all)
 try simp at hc12
 refine y1y ?_
 refine hK11 _ _ ?_
 clear hK11 K11
 refine x7x fun K13 hK13 => ?_
 refine x6x x9x (by rfl) ?_
 refine x0x rfl z6z rfl rfl p9p rfl rfl ?_
 refine x3x rfl p9p rfl rfl ?_
 refine x0x rfl z6z rfl rfl p9p rfl rfl ?_
 refine x3x rfl p9p rfl rfl ?_
 refine z1z rfl rfl rfl (b3v ..) ?_
 refine w6w rfl ?_
 refine y0y rfl (fun hc14 => ?_) (fun hc14 => ?_)
 ·try simp at hc14
  refine x6x x9x (by rfl) ?_
  refine x2x rfl ?_
  refine y3y ⟨.inr rfl, ?_⟩
  clear hK13 K13
  refine z2z rfl ?_ rfl
  exact kF (by intro h; subst h; simp_all)
 try simp at hc14
 refine y1y ?_
 refine hK13 _ _ ?_
 clear hK13 K13
 refine x7x fun K15 hK15 => ?_
 refine x6x x9x (by rfl) ?_
 refine x0x rfl z6z rfl rfl y9y rfl rfl ?_
 refine x3x rfl y9y rfl rfl ?_
 refine x0x rfl z6z rfl rfl y9y rfl rfl ?_
 refine x3x rfl y9y rfl rfl ?_
 refine y4y rfl rfl rfl ?_
 refine y0y rfl (fun hc16 => ?_) (fun hc16 => ?_)
 ·try simp at hc16
  refine x6x x9x (by rfl) ?_
  refine x2x rfl ?_
  refine y3y ⟨.inr rfl, ?_⟩
  clear hK15 K15
  refine z2z rfl ?_ rfl
  exact kF (by intro h; subst h; simp_all)
 try simp at hc16
 refine y1y ?_
 refine hK15 _ _ ?_
 clear hK15 K15
 refine x7x fun K17 hK17 => ?_
 refine x6x x9x (by rfl) ?_
 refine x0x rfl z6z rfl rfl y9y rfl rfl ?_
 refine x3x rfl y9y rfl rfl ?_
 refine x0x rfl z6z rfl rfl y9y rfl rfl ?_
 refine x3x rfl y9y rfl rfl ?_
 refine y4y rfl rfl rfl ?_
 refine y0y rfl (fun hc18 => ?_) (fun hc18 => ?_)
 ·try simp at hc18
  refine x6x x9x (by rfl) ?_
  refine x2x rfl ?_
  refine y3y ⟨.inr rfl, ?_⟩
  clear hK17 K17
  refine z2z rfl ?_ rfl
  exact kF (by intro h; subst h; simp_all)
 try simp at hc18
 refine y1y ?_
 refine hK17 _ _ ?_
 clear hK17 K17
 refine x7x fun K19 hK19 => ?_
 refine x6x x9x (by rfl) ?_
 refine x0x rfl z6z rfl rfl p1p rfl rfl ?_
 refine x3x rfl p1p rfl rfl ?_
 refine x0x rfl z6z rfl rfl p1p rfl rfl ?_
 refine x3x rfl p1p rfl rfl ?_
 refine z1z rfl rfl rfl (b8z ..) ?_
 refine w6w rfl ?_
 refine y0y rfl (fun hc20 => ?_) (fun hc20 => ?_)
 ·try simp at hc20
  refine x6x x9x (by rfl) ?_
  refine x2x rfl ?_
  refine y3y ⟨.inr rfl, ?_⟩
  clear hK19 K19
  refine z2z rfl ?_ rfl
  exact kF (by intro h; subst h; simp_all)
 try simp at hc20
 refine y1y ?_
 refine hK19 _ _ ?_
 clear hK19 K19
 refine x7x fun K21 hK21 => ?_
 refine x6x x9x (by rfl) ?_
 refine x0x rfl z6z rfl rfl p4p rfl rfl ?_
 refine x3x rfl p4p rfl rfl ?_
 refine x0x rfl z6z rfl rfl p4p rfl rfl ?_
 refine x3x rfl p4p rfl rfl ?_
 refine z1z rfl rfl rfl (c1t ..) ?_
 refine w6w rfl ?_
 refine y0y rfl (fun hc22 => ?_) (fun hc22 => ?_)
 ·try simp at hc22
  refine x6x x9x (by rfl) ?_
  refine x2x rfl ?_
  refine y3y ⟨.inr rfl, ?_⟩
  clear hK21 K21
  refine z2z rfl ?_ rfl
  exact kF (by intro h; subst h; simp_all)
 try simp at hc22
 refine y1y ?_
 refine hK21 _ _ ?_
 clear hK21 K21
 refine x7x fun K23 hK23 => ?_
 refine x6x x9x (by rfl) ?_
 refine x0x rfl z6z rfl rfl y9y rfl rfl ?_
 refine x3x rfl y9y rfl rfl ?_
 refine x0x rfl z6z rfl rfl y9y rfl rfl ?_
 refine x3x rfl y9y rfl rfl ?_
 refine y4y rfl rfl rfl ?_
 refine y0y rfl (fun hc24 => ?_) (fun hc24 => ?_)
 ·try simp at hc24
  refine x6x x9x (by rfl) ?_
  refine x2x rfl ?_
  refine y3y ⟨.inr rfl, ?_⟩
  clear hK23 K23
  refine z2z rfl ?_ rfl
  exact kF (by intro h; subst h; simp_all)
 try simp at hc24
 refine y1y ?_
 refine hK23 _ _ ?_
 clear hK23 K23
 refine x7x fun K25 hK25 => ?_
 refine x6x x9x (by rfl) ?_
 refine x0x rfl z6z rfl rfl y9y rfl rfl ?_
 refine x3x rfl y9y rfl rfl ?_
 refine x0x rfl z6z rfl rfl y9y rfl rfl ?_
 refine x3x rfl y9y rfl rfl ?_
 refine y4y rfl rfl rfl ?_
 refine y0y rfl (fun hc26 => ?_) (fun hc26 => ?_)
 ·try simp at hc26
  refine x6x x9x (by rfl) ?_
  refine x2x rfl ?_
  refine y3y ⟨.inr rfl, ?_⟩
  clear hK25 K25
  refine z2z rfl ?_ rfl
  exact kF (by intro h; subst h; simp_all)
 try simp at hc26
 refine y1y ?_
 refine hK25 _ _ ?_
 clear hK25 K25
 refine x6x x9x (by rfl) ?_
 refine x2x rfl ?_
 refine y3y ⟨.inr rfl, ?_⟩
 refine z2z rfl ?_ rfl
 exact kT (by cases a; cases b; simp_all)
end
section
theorem b8g (c : Bool) (l : List Int) (k : Nat) (hk : k + szs zI l ≤ 1000000000) : a0z Tryz.prog 94 [a4r c (mks zI kI k l), .pv (.int .i64 (k : Int))] (.pv (.int .i64 ((k + szs zI l : Nat) : Int))) := by
 refine z4z x9x (fn := Tryz.f94) (by kernel_rfl) (by kernel_rfl) rfl (outs := [.pv (.int .i64 ((k + szs zI l : Nat) : Int))]) (by rfl) (v7v rfl) 0 ?_
 have hml := a4x zI kI k l
 have hll := a4y zI (fun p => by unfold zI; omega) l
 refine x6x x9x (by rfl) ?_
 refine x2x rfl ?_
 refine x7x fun K1 hK1 => ?_
 refine x6x x9x (by rfl) ?_
 refine x2x rfl ?_
 refine y6y ?_
 refine u5u (ι := Nat) (fun i γ1 => [(1, .pv (.int .i64 ((k + szs zI (l.take i) : Nat) : Int))), (5, .pv (.int .i64 (i : Int)))]) (fun i γ1 => []) (fun i => i ≤ l.length) (fun i => l.length - i) (x4x 0 rfl Cov.nil) HE.nil 0 (by omega) [] (Cov.cons' (t := 1) rfl (by rw [List.take_zero]; rfl) (x4x 5 rfl Cov.nil)) HE.nil rfl fun i γ1 hi => ?_
 try dsimp only [List.cons_append, List.nil_append]
 refine x7x fun K2 hK2 => ?_
 refine x6x x9x (by rfl) ?_
 refine x1x rfl ?_
 refine x1x rfl ?_
 refine u3u rfl p4p rfl ?_
 refine y4y rfl rfl rfl ?_
 refine y0y rfl (fun hc3 => ?_) (fun hc3 => ?_)
 rotate_left
 ·try simp at hc3
  obtain rfl : i = l.length := by omega
  refine v0v ?_
  refine hK1 _ _ ?_
  clear hK2 K2 hK1 K1
  refine x6x x9x (by rfl) ?_
  refine x1x rfl ?_
  refine x2x rfl ?_
  refine y3y ⟨.inr rfl, ?_⟩
  refine z2z rfl ?_ rfl
  rw [List.take_length]
 try simp at hc3
 obtain ⟨p, hp⟩ : ∃ p, l[i]? = some p := w5w (by omega)
 have hmk := a4z zI kI (k := k) hp
 have hat := a3f zI hp
 have hzp : zI p = 1 := rfl
 obtain ⟨q, hq⟩ : ∃ q, q = k + szs zI (l.take i) := ⟨_, rfl⟩
 rw [← hq] at hmk ⊢
 refine y1y ?_
 refine hK2 _ _ ?_
 clear hK2 K2
 refine x7x fun K4 hK4 => ?_
 refine y6y ?_
 refine x7x fun K5 hK5 => ?_
 refine x6x x9x (by rfl) ?_
 refine x1x rfl ?_
 refine x1x rfl ?_
 refine u0u rfl rfl p4p rfl y9y rfl (by assumption) ?_
 refine z7z rfl y9y rfl ?_
 refine x1x rfl ?_
 refine y4y rfl rfl rfl ?_
 refine y0y rfl (fun hc6 => ?_) (fun hc6 => ?_)
 ·(simp [kI, kEv, kOu, kPa, kLa, kVi, mEv, mOu, mSt] at hc6; done)
 try simp at hc6
 refine y1y ?_
 refine hK5 _ _ ?_
 clear hK5 K5
 refine y2y x9x (by rfl) ?_
 refine x1x rfl ?_
 refine u1u (b := 1) rfl rfl (by omega) ?_
 refine x2x rfl ?_
 refine hK4 _ _ ?_
 clear hK4 K4
 refine y2y x9x (by rfl) ?_
 refine x1x rfl ?_
 refine u1u (b := 1) rfl rfl (by omega) ?_
 refine x2x rfl ?_
 exact ⟨i + 1, ⟨by omega, by omega⟩, [], (Cov.cons' (t := 1) rfl (by rw [a0u zI hp]; exact congrArg (fun v : Nat => AV.pv (.int .i64 (v : Int))) (by omega)) (x4x 5 rfl Cov.nil)), (x4x 0 rfl Cov.nil), HE.nil, HE.nil, rfl⟩
theorem a4i (c : Bool) (l : List Ev) (k : Nat) (hk : k + szs zEv l ≤ 1000000000) : a0z Tryz.prog 91 [r7r c (mks zEv kEv k l), .pv (.int .i64 (k : Int))] (.pv (.int .i64 ((k + szs zEv l : Nat) : Int))) := by
 refine z4z x9x (fn := Tryz.f91) (by kernel_rfl) (by kernel_rfl) rfl (outs := [.pv (.int .i64 ((k + szs zEv l : Nat) : Int))]) (by rfl) (v7v rfl) 0 ?_
 have hml := a4x zEv kEv k l
 have hll := a4y zEv (fun p => by unfold zEv; omega) l
 refine x6x x9x (by rfl) ?_
 refine x2x rfl ?_
 refine x7x fun K1 hK1 => ?_
 refine x6x x9x (by rfl) ?_
 refine x2x rfl ?_
 refine y6y ?_
 refine u5u (ι := Nat) (fun i γ1 => [(1, .pv (.int .i64 ((k + szs zEv (l.take i) : Nat) : Int))), (5, .pv (.int .i64 (i : Int)))]) (fun i γ1 => []) (fun i => i ≤ l.length) (fun i => l.length - i) (x4x 0 rfl Cov.nil) HE.nil 0 (by omega) [] (Cov.cons' (t := 1) rfl (by rw [List.take_zero]; rfl) (x4x 5 rfl Cov.nil)) HE.nil rfl fun i γ1 hi => ?_
 try dsimp only [List.cons_append, List.nil_append]
 refine x7x fun K2 hK2 => ?_
 refine x6x x9x (by rfl) ?_
 refine x1x rfl ?_
 refine x1x rfl ?_
 refine u3u rfl u4u rfl ?_
 refine y4y rfl rfl rfl ?_
 refine y0y rfl (fun hc3 => ?_) (fun hc3 => ?_)
 rotate_left
 ·try simp at hc3
  obtain rfl : i = l.length := by omega
  refine v0v ?_
  refine hK1 _ _ ?_
  clear hK2 K2 hK1 K1
  refine x6x x9x (by rfl) ?_
  refine x1x rfl ?_
  refine x2x rfl ?_
  refine y3y ⟨.inr rfl, ?_⟩
  refine z2z rfl ?_ rfl
  rw [List.take_length]
 try simp at hc3
 obtain ⟨p, hp⟩ : ∃ p, l[i]? = some p := w5w (by omega)
 have hmk := a4z zEv kEv (k := k) hp
 have hat := a3f zEv hp
 have hzp : zEv p = 7 := rfl
 obtain ⟨q, hq⟩ : ∃ q, q = k + szs zEv (l.take i) := ⟨_, rfl⟩
 rw [← hq] at hmk ⊢
 refine y1y ?_
 refine hK2 _ _ ?_
 clear hK2 K2
 refine x7x fun K4 hK4 => ?_
 refine y6y ?_
 refine x7x fun K5 hK5 => ?_
 refine x6x x9x (by rfl) ?_
 refine x1x rfl ?_
 refine x1x rfl ?_
 refine u0u rfl rfl u4u rfl z3z rfl (by assumption) ?_
 refine x0x rfl z3z rfl rfl y9y rfl rfl ?_
 refine z7z rfl y9y rfl ?_
 refine x1x rfl ?_
 refine y4y rfl rfl rfl ?_
 refine y0y rfl (fun hc6 => ?_) (fun hc6 => ?_)
 ·(simp [kI, kEv, kOu, kPa, kLa, kVi, mEv, mOu, mSt] at hc6; done)
 try simp at hc6
 refine y1y ?_
 refine hK5 _ _ ?_
 clear hK5 K5
 refine x6x x9x (by rfl) ?_
 refine x1x rfl ?_
 refine u1u (b := 1) rfl rfl (by omega) ?_
 refine x2x rfl ?_
 refine x7x fun K7 hK7 => ?_
 refine x6x x9x (by rfl) ?_
 refine x1x rfl ?_
 refine x1x rfl ?_
 refine u0u rfl rfl u4u rfl z3z rfl (by assumption) ?_
 refine x0x rfl z3z rfl rfl y9y rfl rfl ?_
 refine z7z rfl y9y rfl ?_
 refine x1x rfl ?_
 refine y4y rfl rfl rfl ?_
 refine y0y rfl (fun hc8 => ?_) (fun hc8 => ?_)
 ·(simp [kI, kEv, kOu, kPa, kLa, kVi, mEv, mOu, mSt] at hc8; done)
 try simp at hc8
 refine y1y ?_
 refine hK7 _ _ ?_
 clear hK7 K7
 refine x6x x9x (by rfl) ?_
 refine x1x rfl ?_
 refine u1u (b := 1) rfl rfl (by omega) ?_
 refine x2x rfl ?_
 refine x7x fun K9 hK9 => ?_
 refine x6x x9x (by rfl) ?_
 refine x1x rfl ?_
 refine x1x rfl ?_
 refine u0u rfl rfl u4u rfl z3z rfl (by assumption) ?_
 refine x0x rfl z3z rfl rfl y9y rfl rfl ?_
 refine z7z rfl y9y rfl ?_
 refine x1x rfl ?_
 refine y4y rfl rfl rfl ?_
 refine y0y rfl (fun hc10 => ?_) (fun hc10 => ?_)
 ·(simp [kI, kEv, kOu, kPa, kLa, kVi, mEv, mOu, mSt] at hc10; done)
 try simp at hc10
 refine y1y ?_
 refine hK9 _ _ ?_
 clear hK9 K9
 refine x6x x9x (by rfl) ?_
 refine x1x rfl ?_
 refine u1u (b := 1) rfl rfl (by omega) ?_
 refine x2x rfl ?_
 refine x7x fun K11 hK11 => ?_
 refine x6x x9x (by rfl) ?_
 refine x1x rfl ?_
 refine x1x rfl ?_
 refine u0u rfl rfl u4u rfl z3z rfl (by assumption) ?_
 refine x0x rfl z3z rfl rfl y9y rfl rfl ?_
 refine z7z rfl y9y rfl ?_
 refine x1x rfl ?_
 refine y4y rfl rfl rfl ?_
 refine y0y rfl (fun hc12 => ?_) (fun hc12 => ?_)
 ·(simp [kI, kEv, kOu, kPa, kLa, kVi, mEv, mOu, mSt] at hc12; done)
 try simp at hc12
 refine y1y ?_
 refine hK11 _ _ ?_
 clear hK11 K11
 refine x6x x9x (by rfl) ?_
 refine x1x rfl ?_
 refine u1u (b := 1) rfl rfl (by omega) ?_
 refine x2x rfl ?_
 refine x7x fun K13 hK13 => ?_
 refine x6x x9x (by rfl) ?_
 refine x1x rfl ?_
 refine x1x rfl ?_
 refine u0u rfl rfl u4u rfl z3z rfl (by assumption) ?_
 refine x0x rfl z3z rfl rfl y9y rfl rfl ?_
 refine z7z rfl y9y rfl ?_
 refine x1x rfl ?_
 refine y4y rfl rfl rfl ?_
 refine y0y rfl (fun hc14 => ?_) (fun hc14 => ?_)
 ·(simp [kI, kEv, kOu, kPa, kLa, kVi, mEv, mOu, mSt] at hc14; done)
 try simp at hc14
 refine y1y ?_
 refine hK13 _ _ ?_
 clear hK13 K13
 refine x6x x9x (by rfl) ?_
 refine x1x rfl ?_
 refine u1u (b := 1) rfl rfl (by omega) ?_
 refine x2x rfl ?_
 refine x7x fun K15 hK15 => ?_
 refine x6x x9x (by rfl) ?_
 refine x1x rfl ?_
 refine x1x rfl ?_
 refine u0u rfl rfl u4u rfl z3z rfl (by assumption) ?_
 refine x0x rfl z3z rfl rfl y9y rfl rfl ?_
 refine z7z rfl y9y rfl ?_
 refine x1x rfl ?_
 refine y4y rfl rfl rfl ?_
 refine y0y rfl (fun hc16 => ?_) (fun hc16 => ?_)
 ·(simp [kI, kEv, kOu, kPa, kLa, kVi, mEv, mOu, mSt] at hc16; done)
 try simp at hc16
 refine y1y ?_
 refine hK15 _ _ ?_
 clear hK15 K15
 refine x6x x9x (by rfl) ?_
 refine x1x rfl ?_
 refine u1u (b := 1) rfl rfl (by omega) ?_
 refine x2x rfl ?_
 refine x7x fun K17 hK17 => ?_
 refine x6x x9x (by rfl) ?_
 refine x1x rfl ?_
 refine x1x rfl ?_
 refine u0u rfl rfl u4u rfl z3z rfl (by assumption) ?_
 refine x0x rfl z3z rfl rfl y9y rfl rfl ?_
 refine z7z rfl y9y rfl ?_
 refine x1x rfl ?_
 refine y4y rfl rfl rfl ?_
 refine y0y rfl (fun hc18 => ?_) (fun hc18 => ?_)
 ·(simp [kI, kEv, kOu, kPa, kLa, kVi, mEv, mOu, mSt] at hc18; done)
 try simp at hc18
 refine y1y ?_
 refine hK17 _ _ ?_
 clear hK17 K17
 refine y2y x9x (by rfl) ?_
 refine x1x rfl ?_
 refine u1u (b := 1) rfl rfl (by omega) ?_
 refine x2x rfl ?_
 refine hK4 _ _ ?_
 clear hK4 K4
 refine y2y x9x (by rfl) ?_
 refine x1x rfl ?_
 refine u1u (b := 1) rfl rfl (by omega) ?_
 refine x2x rfl ?_
 exact ⟨i + 1, ⟨by omega, by omega⟩, [], (Cov.cons' (t := 1) rfl (by rw [a0u zEv hp]; exact congrArg (fun v : Nat => AV.pv (.int .i64 (v : Int))) (by omega)) (x4x 5 rfl Cov.nil)), (x4x 0 rfl Cov.nil), HE.nil, HE.nil, rfl⟩
theorem b0e (c : Bool) (l : List Ou) (k : Nat) (hk : k + szs zOu l ≤ 1000000000) : a0z Tryz.prog 92 [a1j c (mks zOu kOu k l), .pv (.int .i64 (k : Int))] (.pv (.int .i64 ((k + szs zOu l : Nat) : Int))) := by
 refine z4z x9x (fn := Tryz.f92) (by kernel_rfl) (by kernel_rfl) rfl (outs := [.pv (.int .i64 ((k + szs zOu l : Nat) : Int))]) (by rfl) (v7v rfl) 0 ?_
 have hml := a4x zOu kOu k l
 have hll := a4y zOu (fun p => by unfold zOu; omega) l
 refine x6x x9x (by rfl) ?_
 refine x2x rfl ?_
 refine x7x fun K1 hK1 => ?_
 refine x6x x9x (by rfl) ?_
 refine x2x rfl ?_
 refine y6y ?_
 refine u5u (ι := Nat) (fun i γ1 => [(1, .pv (.int .i64 ((k + szs zOu (l.take i) : Nat) : Int))), (5, .pv (.int .i64 (i : Int)))]) (fun i γ1 => []) (fun i => i ≤ l.length) (fun i => l.length - i) (x4x 0 rfl Cov.nil) HE.nil 0 (by omega) [] (Cov.cons' (t := 1) rfl (by rw [List.take_zero]; rfl) (x4x 5 rfl Cov.nil)) HE.nil rfl fun i γ1 hi => ?_
 try dsimp only [List.cons_append, List.nil_append]
 refine x7x fun K2 hK2 => ?_
 refine x6x x9x (by rfl) ?_
 refine x1x rfl ?_
 refine x1x rfl ?_
 refine u3u rfl p9p rfl ?_
 refine y4y rfl rfl rfl ?_
 refine y0y rfl (fun hc3 => ?_) (fun hc3 => ?_)
 rotate_left
 ·try simp at hc3
  obtain rfl : i = l.length := by omega
  refine v0v ?_
  refine hK1 _ _ ?_
  clear hK2 K2 hK1 K1
  refine x6x x9x (by rfl) ?_
  refine x1x rfl ?_
  refine x2x rfl ?_
  refine y3y ⟨.inr rfl, ?_⟩
  refine z2z rfl ?_ rfl
  rw [List.take_length]
 try simp at hc3
 obtain ⟨p, hp⟩ : ∃ p, l[i]? = some p := w5w (by omega)
 have hmk := a4z zOu kOu (k := k) hp
 have hat := a3f zOu hp
 have hzp : zOu p = 5 := rfl
 obtain ⟨q, hq⟩ : ∃ q, q = k + szs zOu (l.take i) := ⟨_, rfl⟩
 rw [← hq] at hmk ⊢
 refine y1y ?_
 refine hK2 _ _ ?_
 clear hK2 K2
 refine x7x fun K4 hK4 => ?_
 refine y6y ?_
 refine x7x fun K5 hK5 => ?_
 refine x6x x9x (by rfl) ?_
 refine x1x rfl ?_
 refine x1x rfl ?_
 refine u0u rfl rfl p9p rfl v5v rfl (by assumption) ?_
 refine x0x rfl v5v rfl rfl y9y rfl rfl ?_
 refine z7z rfl y9y rfl ?_
 refine x1x rfl ?_
 refine y4y rfl rfl rfl ?_
 refine y0y rfl (fun hc6 => ?_) (fun hc6 => ?_)
 ·(simp [kI, kEv, kOu, kPa, kLa, kVi, mEv, mOu, mSt] at hc6; done)
 try simp at hc6
 refine y1y ?_
 refine hK5 _ _ ?_
 clear hK5 K5
 refine x6x x9x (by rfl) ?_
 refine x1x rfl ?_
 refine u1u (b := 1) rfl rfl (by omega) ?_
 refine x2x rfl ?_
 refine x7x fun K7 hK7 => ?_
 refine x6x x9x (by rfl) ?_
 refine x1x rfl ?_
 refine x1x rfl ?_
 refine u0u rfl rfl p9p rfl v5v rfl (by assumption) ?_
 refine x0x rfl v5v rfl rfl y9y rfl rfl ?_
 refine z7z rfl y9y rfl ?_
 refine x1x rfl ?_
 refine y4y rfl rfl rfl ?_
 refine y0y rfl (fun hc8 => ?_) (fun hc8 => ?_)
 ·(simp [kI, kEv, kOu, kPa, kLa, kVi, mEv, mOu, mSt] at hc8; done)
 try simp at hc8
 refine y1y ?_
 refine hK7 _ _ ?_
 clear hK7 K7
 refine x6x x9x (by rfl) ?_
 refine x1x rfl ?_
 refine u1u (b := 1) rfl rfl (by omega) ?_
 refine x2x rfl ?_
 refine x7x fun K9 hK9 => ?_
 refine x6x x9x (by rfl) ?_
 refine x1x rfl ?_
 refine x1x rfl ?_
 refine u0u rfl rfl p9p rfl v5v rfl (by assumption) ?_
 refine x0x rfl v5v rfl rfl y9y rfl rfl ?_
 refine z7z rfl y9y rfl ?_
 refine x1x rfl ?_
 refine y4y rfl rfl rfl ?_
 refine y0y rfl (fun hc10 => ?_) (fun hc10 => ?_)
 ·(simp [kI, kEv, kOu, kPa, kLa, kVi, mEv, mOu, mSt] at hc10; done)
 try simp at hc10
 refine y1y ?_
 refine hK9 _ _ ?_
 clear hK9 K9
 refine x6x x9x (by rfl) ?_
 refine x1x rfl ?_
 refine u1u (b := 1) rfl rfl (by omega) ?_
 refine x2x rfl ?_
 refine x7x fun K11 hK11 => ?_
 refine x6x x9x (by rfl) ?_
 refine x1x rfl ?_
 refine x1x rfl ?_
 refine u0u rfl rfl p9p rfl v5v rfl (by assumption) ?_
 refine x0x rfl v5v rfl rfl y9y rfl rfl ?_
 refine z7z rfl y9y rfl ?_
 refine x1x rfl ?_
 refine y4y rfl rfl rfl ?_
 refine y0y rfl (fun hc12 => ?_) (fun hc12 => ?_)
 ·(simp [kI, kEv, kOu, kPa, kLa, kVi, mEv, mOu, mSt] at hc12; done)
 try simp at hc12
 refine y1y ?_
 refine hK11 _ _ ?_
 clear hK11 K11
 refine x6x x9x (by rfl) ?_
 refine x1x rfl ?_
 refine u1u (b := 1) rfl rfl (by omega) ?_
 refine x2x rfl ?_
 refine x7x fun K13 hK13 => ?_
 refine x6x x9x (by rfl) ?_
 refine x1x rfl ?_
 refine x1x rfl ?_
 refine u0u rfl rfl p9p rfl v5v rfl (by assumption) ?_
 refine x0x rfl v5v rfl rfl y9y rfl rfl ?_
 refine z7z rfl y9y rfl ?_
 refine x1x rfl ?_
 refine y4y rfl rfl rfl ?_
 refine y0y rfl (fun hc14 => ?_) (fun hc14 => ?_)
 ·(simp [kI, kEv, kOu, kPa, kLa, kVi, mEv, mOu, mSt] at hc14; done)
 try simp at hc14
 refine y1y ?_
 refine hK13 _ _ ?_
 clear hK13 K13
 refine y2y x9x (by rfl) ?_
 refine x1x rfl ?_
 refine u1u (b := 1) rfl rfl (by omega) ?_
 refine x2x rfl ?_
 refine hK4 _ _ ?_
 clear hK4 K4
 refine y2y x9x (by rfl) ?_
 refine x1x rfl ?_
 refine u1u (b := 1) rfl rfl (by omega) ?_
 refine x2x rfl ?_
 exact ⟨i + 1, ⟨by omega, by omega⟩, [], (Cov.cons' (t := 1) rfl (by rw [a0u zOu hp]; exact congrArg (fun v : Nat => AV.pv (.int .i64 (v : Int))) (by omega)) (x4x 5 rfl Cov.nil)), (x4x 0 rfl Cov.nil), HE.nil, HE.nil, rfl⟩
theorem b5u (c : Bool) (l : List Pa) (k : Nat) (hk : k + szs zPa l ≤ 1000000000) : a0z Tryz.prog 180 [a3p c (mks zPa kPa k l), .pv (.int .i64 (k : Int))] (.pv (.int .i64 ((k + szs zPa l : Nat) : Int))) := by
 refine z4z x9x (fn := Tryz.f180) (by kernel_rfl) (by kernel_rfl) rfl (outs := [.pv (.int .i64 ((k + szs zPa l : Nat) : Int))]) (by rfl) (v7v rfl) 0 ?_
 have hml := a4x zPa kPa k l
 have hll := a4y zPa (fun p => by unfold zPa; omega) l
 refine x6x x9x (by rfl) ?_
 refine x2x rfl ?_
 refine x7x fun K1 hK1 => ?_
 refine x6x x9x (by rfl) ?_
 refine x2x rfl ?_
 refine y6y ?_
 refine u5u (ι := Nat) (fun i γ1 => [(1, .pv (.int .i64 ((k + szs zPa (l.take i) : Nat) : Int))), (5, .pv (.int .i64 (i : Int)))]) (fun i γ1 => []) (fun i => i ≤ l.length) (fun i => l.length - i) (x4x 0 rfl Cov.nil) HE.nil 0 (by omega) [] (Cov.cons' (t := 1) rfl (by rw [List.take_zero]; rfl) (x4x 5 rfl Cov.nil)) HE.nil rfl fun i γ1 hi => ?_
 try dsimp only [List.cons_append, List.nil_append]
 refine x7x fun K2 hK2 => ?_
 refine x6x x9x (by rfl) ?_
 refine x1x rfl ?_
 refine x1x rfl ?_
 refine u3u rfl w0w rfl ?_
 refine y4y rfl rfl rfl ?_
 refine y0y rfl (fun hc3 => ?_) (fun hc3 => ?_)
 rotate_left
 ·try simp at hc3
  obtain rfl : i = l.length := by omega
  refine v0v ?_
  refine hK1 _ _ ?_
  clear hK2 K2 hK1 K1
  refine x6x x9x (by rfl) ?_
  refine x1x rfl ?_
  refine x2x rfl ?_
  refine y3y ⟨.inr rfl, ?_⟩
  refine z2z rfl ?_ rfl
  rw [List.take_length]
 try simp at hc3
 obtain ⟨p, hp⟩ : ∃ p, l[i]? = some p := w5w (by omega)
 have hmk := a4z zPa kPa (k := k) hp
 have hat := a3f zPa hp
 have hzp : zPa p = 10 + szs zEv p.sends + szs zOu p.outs := rfl
 obtain ⟨q, hq⟩ : ∃ q, q = k + szs zPa (l.take i) := ⟨_, rfl⟩
 rw [← hq] at hmk ⊢
 refine y1y ?_
 refine hK2 _ _ ?_
 clear hK2 K2
 refine x7x fun K4 hK4 => ?_
 refine y6y ?_
 refine x7x fun K5 hK5 => ?_
 refine x6x x9x (by rfl) ?_
 refine x1x rfl ?_
 refine x1x rfl ?_
 refine u0u rfl rfl w0w rfl w1w rfl (by assumption) ?_
 refine x0x rfl w1w rfl rfl z3z rfl rfl ?_
 refine x0x rfl z3z rfl rfl y9y rfl rfl ?_
 refine z7z rfl y9y rfl ?_
 refine x1x rfl ?_
 refine y4y rfl rfl rfl ?_
 refine y0y rfl (fun hc6 => ?_) (fun hc6 => ?_)
 ·(simp [kI, kEv, kOu, kPa, kLa, kVi, mEv, mOu, mSt] at hc6; done)
 try simp at hc6
 refine y1y ?_
 refine hK5 _ _ ?_
 clear hK5 K5
 refine x6x x9x (by rfl) ?_
 refine x1x rfl ?_
 refine u1u (b := 1) rfl rfl (by omega) ?_
 refine x2x rfl ?_
 refine x7x fun K7 hK7 => ?_
 refine x6x x9x (by rfl) ?_
 refine x1x rfl ?_
 refine x1x rfl ?_
 refine u0u rfl rfl w0w rfl w1w rfl (by assumption) ?_
 refine x0x rfl w1w rfl rfl z3z rfl rfl ?_
 refine x0x rfl z3z rfl rfl y9y rfl rfl ?_
 refine z7z rfl y9y rfl ?_
 refine x1x rfl ?_
 refine y4y rfl rfl rfl ?_
 refine y0y rfl (fun hc8 => ?_) (fun hc8 => ?_)
 ·(simp [kI, kEv, kOu, kPa, kLa, kVi, mEv, mOu, mSt] at hc8; done)
 try simp at hc8
 refine y1y ?_
 refine hK7 _ _ ?_
 clear hK7 K7
 refine x6x x9x (by rfl) ?_
 refine x1x rfl ?_
 refine u1u (b := 1) rfl rfl (by omega) ?_
 refine x2x rfl ?_
 refine x7x fun K9 hK9 => ?_
 refine x6x x9x (by rfl) ?_
 refine x1x rfl ?_
 refine x1x rfl ?_
 refine u0u rfl rfl w0w rfl w1w rfl (by assumption) ?_
 refine x0x rfl w1w rfl rfl z3z rfl rfl ?_
 refine x0x rfl z3z rfl rfl y9y rfl rfl ?_
 refine z7z rfl y9y rfl ?_
 refine x1x rfl ?_
 refine y4y rfl rfl rfl ?_
 refine y0y rfl (fun hc10 => ?_) (fun hc10 => ?_)
 ·(simp [kI, kEv, kOu, kPa, kLa, kVi, mEv, mOu, mSt] at hc10; done)
 try simp at hc10
 refine y1y ?_
 refine hK9 _ _ ?_
 clear hK9 K9
 refine x6x x9x (by rfl) ?_
 refine x1x rfl ?_
 refine u1u (b := 1) rfl rfl (by omega) ?_
 refine x2x rfl ?_
 refine x7x fun K11 hK11 => ?_
 refine x6x x9x (by rfl) ?_
 refine x1x rfl ?_
 refine x1x rfl ?_
 refine u0u rfl rfl w0w rfl w1w rfl (by assumption) ?_
 refine x0x rfl w1w rfl rfl z3z rfl rfl ?_
 refine x0x rfl z3z rfl rfl y9y rfl rfl ?_
 refine z7z rfl y9y rfl ?_
 refine x1x rfl ?_
 refine y4y rfl rfl rfl ?_
 refine y0y rfl (fun hc12 => ?_) (fun hc12 => ?_)
 ·(simp [kI, kEv, kOu, kPa, kLa, kVi, mEv, mOu, mSt] at hc12; done)
 try simp at hc12
 refine y1y ?_
 refine hK11 _ _ ?_
 clear hK11 K11
 refine x6x x9x (by rfl) ?_
 refine x1x rfl ?_
 refine u1u (b := 1) rfl rfl (by omega) ?_
 refine x2x rfl ?_
 refine x7x fun K13 hK13 => ?_
 refine x6x x9x (by rfl) ?_
 refine x1x rfl ?_
 refine x1x rfl ?_
 refine u0u rfl rfl w0w rfl w1w rfl (by assumption) ?_
 refine x0x rfl w1w rfl rfl z3z rfl rfl ?_
 refine x0x rfl z3z rfl rfl y9y rfl rfl ?_
 refine z7z rfl y9y rfl ?_
 refine x1x rfl ?_
 refine y4y rfl rfl rfl ?_
 refine y0y rfl (fun hc14 => ?_) (fun hc14 => ?_)
 ·(simp [kI, kEv, kOu, kPa, kLa, kVi, mEv, mOu, mSt] at hc14; done)
 try simp at hc14
 refine y1y ?_
 refine hK13 _ _ ?_
 clear hK13 K13
 refine x6x x9x (by rfl) ?_
 refine x1x rfl ?_
 refine u1u (b := 1) rfl rfl (by omega) ?_
 refine x2x rfl ?_
 refine x7x fun K15 hK15 => ?_
 refine x6x x9x (by rfl) ?_
 refine x1x rfl ?_
 refine x1x rfl ?_
 refine u0u rfl rfl w0w rfl w1w rfl (by assumption) ?_
 refine x0x rfl w1w rfl rfl z3z rfl rfl ?_
 refine x0x rfl z3z rfl rfl y9y rfl rfl ?_
 refine z7z rfl y9y rfl ?_
 refine x1x rfl ?_
 refine y4y rfl rfl rfl ?_
 refine y0y rfl (fun hc16 => ?_) (fun hc16 => ?_)
 ·(simp [kI, kEv, kOu, kPa, kLa, kVi, mEv, mOu, mSt] at hc16; done)
 try simp at hc16
 refine y1y ?_
 refine hK15 _ _ ?_
 clear hK15 K15
 refine x6x x9x (by rfl) ?_
 refine x1x rfl ?_
 refine u1u (b := 1) rfl rfl (by omega) ?_
 refine x2x rfl ?_
 refine x7x fun K17 hK17 => ?_
 refine x6x x9x (by rfl) ?_
 refine x1x rfl ?_
 refine x1x rfl ?_
 refine u0u rfl rfl w0w rfl w1w rfl (by assumption) ?_
 refine x0x rfl w1w rfl rfl z3z rfl rfl ?_
 refine x0x rfl z3z rfl rfl y9y rfl rfl ?_
 refine z7z rfl y9y rfl ?_
 refine x1x rfl ?_
 refine y4y rfl rfl rfl ?_
 refine y0y rfl (fun hc18 => ?_) (fun hc18 => ?_)
 ·(simp [kI, kEv, kOu, kPa, kLa, kVi, mEv, mOu, mSt] at hc18; done)
 try simp at hc18
 refine y1y ?_
 refine hK17 _ _ ?_
 clear hK17 K17
 refine x6x x9x (by rfl) ?_
 refine x1x rfl ?_
 refine u1u (b := 1) rfl rfl (by omega) ?_
 refine x2x rfl ?_
 refine x7x fun K19 hK19 => ?_
 refine x6x x9x (by rfl) ?_
 refine x1x rfl ?_
 refine x1x rfl ?_
 refine u0u rfl rfl w0w rfl w1w rfl (by assumption) ?_
 refine x0x rfl w1w rfl rfl r4r rfl rfl ?_
 refine x0x rfl r4r rfl rfl y9y rfl rfl ?_
 refine z7z rfl y9y rfl ?_
 refine x1x rfl ?_
 refine y4y rfl rfl rfl ?_
 refine y0y rfl (fun hc20 => ?_) (fun hc20 => ?_)
 ·(simp [kI, kEv, kOu, kPa, kLa, kVi, mEv, mOu, mSt] at hc20; omega)
 try simp at hc20
 refine y1y ?_
 refine hK19 _ _ ?_
 clear hK19 K19
 refine x6x x9x (by rfl) ?_
 refine x1x rfl ?_
 refine u1u (b := 1) rfl rfl (by omega) ?_
 refine x2x rfl ?_
 refine x7x fun K21 hK21 => ?_
 refine x6x x9x (by rfl) ?_
 refine x1x rfl ?_
 refine x1x rfl ?_
 refine u0u rfl rfl w0w rfl w1w rfl (by assumption) ?_
 refine x0x rfl w1w rfl rfl r4r rfl rfl ?_
 refine x0x rfl r4r rfl rfl y9y rfl rfl ?_
 refine z7z rfl y9y rfl ?_
 refine x1x rfl ?_
 refine y4y rfl rfl rfl ?_
 refine y0y rfl (fun hc22 => ?_) (fun hc22 => ?_)
 ·(simp [kI, kEv, kOu, kPa, kLa, kVi, mEv, mOu, mSt] at hc22; omega)
 try simp at hc22
 refine y1y ?_
 refine hK21 _ _ ?_
 clear hK21 K21
 refine x6x x9x (by rfl) ?_
 refine x1x rfl ?_
 refine u1u (b := 1) rfl rfl (by omega) ?_
 refine x2x rfl ?_
 refine x7x fun K23 hK23 => ?_
 refine x6x x9x (by rfl) ?_
 refine x1x rfl ?_
 refine x1x rfl ?_
 refine u0u rfl rfl w0w rfl w1w rfl (by assumption) ?_
 refine x0x rfl w1w rfl rfl r4r rfl rfl ?_
 refine x0x rfl r4r rfl rfl y9y rfl rfl ?_
 refine z7z rfl y9y rfl ?_
 refine x1x rfl ?_
 refine y4y rfl rfl rfl ?_
 refine y0y rfl (fun hc24 => ?_) (fun hc24 => ?_)
 ·(simp [kI, kEv, kOu, kPa, kLa, kVi, mEv, mOu, mSt] at hc24; omega)
 try simp at hc24
 refine y1y ?_
 refine hK23 _ _ ?_
 clear hK23 K23
 refine x6x x9x (by rfl) ?_
 refine x1x rfl ?_
 refine u1u (b := 1) rfl rfl (by omega) ?_
 refine x2x rfl ?_
 refine x6x x9x (by rfl) ?_
 refine x1x rfl ?_
 refine x1x rfl ?_
 refine u0u rfl rfl w0w rfl w1w rfl (by assumption) ?_
 refine x0x rfl w1w rfl rfl u4u rfl rfl ?_
 refine z7z rfl u4u rfl ?_
 refine x1x rfl ?_
 refine z1z rfl rfl rfl (a4i c p.sends (q + 10) (by omega)) ?_
 refine x2x rfl ?_
 refine x7x fun K25 hK25 => ?_
 refine x6x x9x (by rfl) ?_
 refine x1x rfl ?_
 refine y4y rfl rfl rfl ?_
 refine y0y rfl (fun hc26 => ?_) (fun hc26 => ?_)
 ·(simp [kI, kEv, kOu, kPa, kLa, kVi, mEv, mOu, mSt] at hc26; omega)
 try simp at hc26
 refine y1y ?_
 refine hK25 _ _ ?_
 clear hK25 K25
 refine x6x x9x (by rfl) ?_
 refine x1x rfl ?_
 refine x1x rfl ?_
 refine u0u rfl rfl w0w rfl w1w rfl (by assumption) ?_
 refine x0x rfl w1w rfl rfl p9p rfl rfl ?_
 refine z7z rfl p9p rfl ?_
 refine x1x rfl ?_
 refine z1z rfl rfl rfl (b0e c p.outs (q + 10 + szs zEv p.sends) (by omega)) ?_
 refine x2x rfl ?_
 refine x6x x9x (by rfl) ?_
 refine x1x rfl ?_
 refine y4y rfl rfl rfl ?_
 refine y0y rfl (fun hc27 => ?_) (fun hc27 => ?_)
 ·(simp [kI, kEv, kOu, kPa, kLa, kVi, mEv, mOu, mSt] at hc27; omega)
 try simp at hc27
 refine y1y ?_
 refine hK4 _ _ ?_
 clear hK4 K4
 refine y2y x9x (by rfl) ?_
 refine x1x rfl ?_
 refine u1u (b := 1) rfl rfl (by omega) ?_
 refine x2x rfl ?_
 exact ⟨i + 1, ⟨by omega, by omega⟩, [], (Cov.cons' (t := 1) rfl (by rw [a0u zPa hp]; exact congrArg (fun v : Nat => AV.pv (.int .i64 (v : Int))) (by omega)) (x4x 5 rfl Cov.nil)), (x4x 0 rfl Cov.nil), HE.nil, HE.nil, rfl⟩
theorem b5v (c : Bool) (l : List La) (k : Nat) (hk : k + szs zLa l ≤ 1000000000) : a0z Tryz.prog 90 [c1q c (mks zLa kLa k l), .pv (.int .i64 (k : Int))] (.pv (.int .i64 ((k + szs zLa l : Nat) : Int))) := by
 refine z4z x9x (fn := Tryz.f90) (by kernel_rfl) (by kernel_rfl) rfl (outs := [.pv (.int .i64 ((k + szs zLa l : Nat) : Int))]) (by rfl) (v7v rfl) 0 ?_
 have hml := a4x zLa kLa k l
 have hll := a4y zLa (fun p => by unfold zLa; omega) l
 refine x6x x9x (by rfl) ?_
 refine x2x rfl ?_
 refine x7x fun K1 hK1 => ?_
 refine x6x x9x (by rfl) ?_
 refine x2x rfl ?_
 refine y6y ?_
 refine u5u (ι := Nat) (fun i γ1 => [(1, .pv (.int .i64 ((k + szs zLa (l.take i) : Nat) : Int))), (5, .pv (.int .i64 (i : Int)))]) (fun i γ1 => []) (fun i => i ≤ l.length) (fun i => l.length - i) (x4x 0 rfl Cov.nil) HE.nil 0 (by omega) [] (Cov.cons' (t := 1) rfl (by rw [List.take_zero]; rfl) (x4x 5 rfl Cov.nil)) HE.nil rfl fun i γ1 hi => ?_
 try dsimp only [List.cons_append, List.nil_append]
 refine x7x fun K2 hK2 => ?_
 refine x6x x9x (by rfl) ?_
 refine x1x rfl ?_
 refine x1x rfl ?_
 refine u3u rfl w2w rfl ?_
 refine y4y rfl rfl rfl ?_
 refine y0y rfl (fun hc3 => ?_) (fun hc3 => ?_)
 rotate_left
 ·try simp at hc3
  obtain rfl : i = l.length := by omega
  refine v0v ?_
  refine hK1 _ _ ?_
  clear hK2 K2 hK1 K1
  refine x6x x9x (by rfl) ?_
  refine x1x rfl ?_
  refine x2x rfl ?_
  refine y3y ⟨.inr rfl, ?_⟩
  refine z2z rfl ?_ rfl
  rw [List.take_length]
 try simp at hc3
 obtain ⟨p, hp⟩ : ∃ p, l[i]? = some p := w5w (by omega)
 have hmk := a4z zLa kLa (k := k) hp
 have hat := a3f zLa hp
 have hzp : zLa p = 4 + szs zPa p.done := rfl
 obtain ⟨q, hq⟩ : ∃ q, q = k + szs zLa (l.take i) := ⟨_, rfl⟩
 rw [← hq] at hmk ⊢
 refine y1y ?_
 refine hK2 _ _ ?_
 clear hK2 K2
 refine x7x fun K4 hK4 => ?_
 refine y6y ?_
 refine x7x fun K5 hK5 => ?_
 refine x6x x9x (by rfl) ?_
 refine x1x rfl ?_
 refine x1x rfl ?_
 refine u0u rfl rfl w2w rfl v8v rfl (by assumption) ?_
 refine x0x rfl v8v rfl rfl y9y rfl rfl ?_
 refine z7z rfl y9y rfl ?_
 refine x1x rfl ?_
 refine y4y rfl rfl rfl ?_
 refine y0y rfl (fun hc6 => ?_) (fun hc6 => ?_)
 ·(simp [kI, kEv, kOu, kPa, kLa, kVi, mEv, mOu, mSt] at hc6; done)
 try simp at hc6
 refine y1y ?_
 refine hK5 _ _ ?_
 clear hK5 K5
 refine x6x x9x (by rfl) ?_
 refine x1x rfl ?_
 refine u1u (b := 1) rfl rfl (by omega) ?_
 refine x2x rfl ?_
 refine x7x fun K7 hK7 => ?_
 refine x6x x9x (by rfl) ?_
 refine x1x rfl ?_
 refine x1x rfl ?_
 refine u0u rfl rfl w2w rfl v8v rfl (by assumption) ?_
 refine x0x rfl v8v rfl rfl r4r rfl rfl ?_
 refine x0x rfl r4r rfl rfl y9y rfl rfl ?_
 refine z7z rfl y9y rfl ?_
 refine x1x rfl ?_
 refine y4y rfl rfl rfl ?_
 refine y0y rfl (fun hc8 => ?_) (fun hc8 => ?_)
 ·(simp [kI, kEv, kOu, kPa, kLa, kVi, mEv, mOu, mSt] at hc8; done)
 try simp at hc8
 refine y1y ?_
 refine hK7 _ _ ?_
 clear hK7 K7
 refine x6x x9x (by rfl) ?_
 refine x1x rfl ?_
 refine u1u (b := 1) rfl rfl (by omega) ?_
 refine x2x rfl ?_
 refine x7x fun K9 hK9 => ?_
 refine x6x x9x (by rfl) ?_
 refine x1x rfl ?_
 refine x1x rfl ?_
 refine u0u rfl rfl w2w rfl v8v rfl (by assumption) ?_
 refine x0x rfl v8v rfl rfl r4r rfl rfl ?_
 refine x0x rfl r4r rfl rfl y9y rfl rfl ?_
 refine z7z rfl y9y rfl ?_
 refine x1x rfl ?_
 refine y4y rfl rfl rfl ?_
 refine y0y rfl (fun hc10 => ?_) (fun hc10 => ?_)
 ·(simp [kI, kEv, kOu, kPa, kLa, kVi, mEv, mOu, mSt] at hc10; done)
 try simp at hc10
 refine y1y ?_
 refine hK9 _ _ ?_
 clear hK9 K9
 refine x6x x9x (by rfl) ?_
 refine x1x rfl ?_
 refine u1u (b := 1) rfl rfl (by omega) ?_
 refine x2x rfl ?_
 refine x7x fun K11 hK11 => ?_
 refine x6x x9x (by rfl) ?_
 refine x1x rfl ?_
 refine x1x rfl ?_
 refine u0u rfl rfl w2w rfl v8v rfl (by assumption) ?_
 refine x0x rfl v8v rfl rfl r4r rfl rfl ?_
 refine x0x rfl r4r rfl rfl y9y rfl rfl ?_
 refine z7z rfl y9y rfl ?_
 refine x1x rfl ?_
 refine y4y rfl rfl rfl ?_
 refine y0y rfl (fun hc12 => ?_) (fun hc12 => ?_)
 ·(simp [kI, kEv, kOu, kPa, kLa, kVi, mEv, mOu, mSt] at hc12; done)
 try simp at hc12
 refine y1y ?_
 refine hK11 _ _ ?_
 clear hK11 K11
 refine x6x x9x (by rfl) ?_
 refine x1x rfl ?_
 refine u1u (b := 1) rfl rfl (by omega) ?_
 refine x2x rfl ?_
 refine x6x x9x (by rfl) ?_
 refine x1x rfl ?_
 refine x1x rfl ?_
 refine u0u rfl rfl w2w rfl v8v rfl (by assumption) ?_
 refine x0x rfl v8v rfl rfl w0w rfl rfl ?_
 refine z7z rfl w0w rfl ?_
 refine x1x rfl ?_
 refine z1z rfl rfl rfl (b5u c p.done (q + 4) (by omega)) ?_
 refine x2x rfl ?_
 refine x6x x9x (by rfl) ?_
 refine x1x rfl ?_
 refine y4y rfl rfl rfl ?_
 refine y0y rfl (fun hc13 => ?_) (fun hc13 => ?_)
 ·(simp [kI, kEv, kOu, kPa, kLa, kVi, mEv, mOu, mSt] at hc13; omega)
 try simp at hc13
 refine y1y ?_
 refine hK4 _ _ ?_
 clear hK4 K4
 refine y2y x9x (by rfl) ?_
 refine x1x rfl ?_
 refine u1u (b := 1) rfl rfl (by omega) ?_
 refine x2x rfl ?_
 exact ⟨i + 1, ⟨by omega, by omega⟩, [], (Cov.cons' (t := 1) rfl (by rw [a0u zLa hp]; exact congrArg (fun v : Nat => AV.pv (.int .i64 (v : Int))) (by omega)) (x4x 5 rfl Cov.nil)), (x4x 0 rfl Cov.nil), HE.nil, HE.nil, rfl⟩
theorem b5w (c : Bool) (l : List Vi) (k : Nat) (hk : k + szs zVi l ≤ 1000000000) : a0z Tryz.prog 93 [c1r c (mks zVi kVi k l), .pv (.int .i64 (k : Int))] (.pv (.int .i64 ((k + szs zVi l : Nat) : Int))) := by
 refine z4z x9x (fn := Tryz.f93) (by kernel_rfl) (by kernel_rfl) rfl (outs := [.pv (.int .i64 ((k + szs zVi l : Nat) : Int))]) (by rfl) (v7v rfl) 0 ?_
 have hml := a4x zVi kVi k l
 have hll := a4y zVi (fun p => by unfold zVi; omega) l
 refine x6x x9x (by rfl) ?_
 refine x2x rfl ?_
 refine x7x fun K1 hK1 => ?_
 refine x6x x9x (by rfl) ?_
 refine x2x rfl ?_
 refine y6y ?_
 refine u5u (ι := Nat) (fun i γ1 => [(1, .pv (.int .i64 ((k + szs zVi (l.take i) : Nat) : Int))), (5, .pv (.int .i64 (i : Int)))]) (fun i γ1 => []) (fun i => i ≤ l.length) (fun i => l.length - i) (x4x 0 rfl Cov.nil) HE.nil 0 (by omega) [] (Cov.cons' (t := 1) rfl (by rw [List.take_zero]; rfl) (x4x 5 rfl Cov.nil)) HE.nil rfl fun i γ1 hi => ?_
 try dsimp only [List.cons_append, List.nil_append]
 refine x7x fun K2 hK2 => ?_
 refine x6x x9x (by rfl) ?_
 refine x1x rfl ?_
 refine x1x rfl ?_
 refine u3u rfl p1p rfl ?_
 refine y4y rfl rfl rfl ?_
 refine y0y rfl (fun hc3 => ?_) (fun hc3 => ?_)
 rotate_left
 ·try simp at hc3
  obtain rfl : i = l.length := by omega
  refine v0v ?_
  refine hK1 _ _ ?_
  clear hK2 K2 hK1 K1
  refine x6x x9x (by rfl) ?_
  refine x1x rfl ?_
  refine x2x rfl ?_
  refine y3y ⟨.inr rfl, ?_⟩
  refine z2z rfl ?_ rfl
  rw [List.take_length]
 try simp at hc3
 obtain ⟨p, hp⟩ : ∃ p, l[i]? = some p := w5w (by omega)
 have hmk := a4z zVi kVi (k := k) hp
 have hat := a3f zVi hp
 have hzp : zVi p = 2 + szs zEv p.events := rfl
 obtain ⟨q, hq⟩ : ∃ q, q = k + szs zVi (l.take i) := ⟨_, rfl⟩
 rw [← hq] at hmk ⊢
 refine y1y ?_
 refine hK2 _ _ ?_
 clear hK2 K2
 refine x7x fun K4 hK4 => ?_
 refine y6y ?_
 refine x7x fun K5 hK5 => ?_
 refine x6x x9x (by rfl) ?_
 refine x1x rfl ?_
 refine x1x rfl ?_
 refine u0u rfl rfl p1p rfl v6v rfl (by assumption) ?_
 refine x0x rfl v6v rfl rfl y9y rfl rfl ?_
 refine z7z rfl y9y rfl ?_
 refine x1x rfl ?_
 refine y4y rfl rfl rfl ?_
 refine y0y rfl (fun hc6 => ?_) (fun hc6 => ?_)
 ·(simp [kI, kEv, kOu, kPa, kLa, kVi, mEv, mOu, mSt] at hc6; done)
 try simp at hc6
 refine y1y ?_
 refine hK5 _ _ ?_
 clear hK5 K5
 refine x6x x9x (by rfl) ?_
 refine x1x rfl ?_
 refine u1u (b := 1) rfl rfl (by omega) ?_
 refine x2x rfl ?_
 refine x7x fun K7 hK7 => ?_
 refine x6x x9x (by rfl) ?_
 refine x1x rfl ?_
 refine x1x rfl ?_
 refine u0u rfl rfl p1p rfl v6v rfl (by assumption) ?_
 refine x0x rfl v6v rfl rfl y9y rfl rfl ?_
 refine z7z rfl y9y rfl ?_
 refine x1x rfl ?_
 refine y4y rfl rfl rfl ?_
 refine y0y rfl (fun hc8 => ?_) (fun hc8 => ?_)
 ·(simp [kI, kEv, kOu, kPa, kLa, kVi, mEv, mOu, mSt] at hc8; done)
 try simp at hc8
 refine y1y ?_
 refine hK7 _ _ ?_
 clear hK7 K7
 refine x6x x9x (by rfl) ?_
 refine x1x rfl ?_
 refine u1u (b := 1) rfl rfl (by omega) ?_
 refine x2x rfl ?_
 refine x6x x9x (by rfl) ?_
 refine x1x rfl ?_
 refine x1x rfl ?_
 refine u0u rfl rfl p1p rfl v6v rfl (by assumption) ?_
 refine x0x rfl v6v rfl rfl u4u rfl rfl ?_
 refine z7z rfl u4u rfl ?_
 refine x1x rfl ?_
 refine z1z rfl rfl rfl (a4i c p.events (q + 2) (by omega)) ?_
 refine x2x rfl ?_
 refine x6x x9x (by rfl) ?_
 refine x1x rfl ?_
 refine y4y rfl rfl rfl ?_
 refine y0y rfl (fun hc9 => ?_) (fun hc9 => ?_)
 ·(simp [kI, kEv, kOu, kPa, kLa, kVi, mEv, mOu, mSt] at hc9; omega)
 try simp at hc9
 refine y1y ?_
 refine hK4 _ _ ?_
 clear hK4 K4
 refine y2y x9x (by rfl) ?_
 refine x1x rfl ?_
 refine u1u (b := 1) rfl rfl (by omega) ?_
 refine x2x rfl ?_
 exact ⟨i + 1, ⟨by omega, by omega⟩, [], (Cov.cons' (t := 1) rfl (by rw [a0u zVi hp]; exact congrArg (fun v : Nat => AV.pv (.int .i64 (v : Int))) (by omega)) (x4x 5 rfl Cov.nil)), (x4x 0 rfl Cov.nil), HE.nil, HE.nil, rfl⟩
theorem b0f (c : Bool) (n : Nd) (k : Nat) (hk : k + zNd n ≤ 1000000000) : a0z Tryz.prog 22 [.agg (a1i c (kNd k n)), .pv (.int .i64 (k : Int))] (.pv (.int .i64 ((k + zNd n : Nat) : Int))) := by
 refine z4z x9x (fn := Tryz.f22) (by kernel_rfl) (by kernel_rfl) rfl (outs := [.pv (.int .i64 ((k + zNd n : Nat) : Int))]) (by rfl) (v7v rfl) 1 ?_
 have hz : zNd n = szs zLa n.lanes + szs zEv n.kept + szs zOu n.outs + szs zVi n.views + szs zI n.known := rfl
 refine x6x x9x (by rfl) ?_
 refine v4v (id := 0) rfl rfl rfl ?_
 refine x2x rfl ?_
 refine x6x x9x (by rfl) ?_
 refine x0x rfl z6z rfl rfl w2w rfl rfl ?_
 refine x3x rfl w2w rfl rfl ?_
 refine x1x rfl ?_
 refine z1z rfl rfl rfl (b5v c n.lanes k (by omega)) ?_
 refine x2x rfl ?_
 refine x7x fun K1 hK1 => ?_
 refine x6x x9x (by rfl) ?_
 refine x1x rfl ?_
 refine y4y rfl rfl rfl ?_
 refine y0y rfl (fun hc2 => ?_) (fun hc2 => ?_)
 ·(simp [kI, kEv, kOu, kPa, kLa, kVi, mEv, mOu, mSt] at hc2; omega)
 try simp at hc2
 refine y1y ?_
 refine hK1 _ _ ?_
 clear hK1 K1
 refine x6x x9x (by rfl) ?_
 refine x0x rfl z6z rfl rfl u4u rfl rfl ?_
 refine x3x rfl u4u rfl rfl ?_
 refine x1x rfl ?_
 refine z1z rfl rfl rfl (a4i c n.kept (k + szs zLa n.lanes) (by omega)) ?_
 refine x2x rfl ?_
 refine x7x fun K3 hK3 => ?_
 refine x6x x9x (by rfl) ?_
 refine x1x rfl ?_
 refine y4y rfl rfl rfl ?_
 refine y0y rfl (fun hc4 => ?_) (fun hc4 => ?_)
 ·(simp [kI, kEv, kOu, kPa, kLa, kVi, mEv, mOu, mSt] at hc4; omega)
 try simp at hc4
 refine y1y ?_
 refine hK3 _ _ ?_
 clear hK3 K3
 refine x6x x9x (by rfl) ?_
 refine x0x rfl z6z rfl rfl p9p rfl rfl ?_
 refine x3x rfl p9p rfl rfl ?_
 refine x1x rfl ?_
 refine z1z rfl rfl rfl (b0e c n.outs (k + szs zLa n.lanes + szs zEv n.kept) (by omega)) ?_
 refine x2x rfl ?_
 refine x7x fun K5 hK5 => ?_
 refine x6x x9x (by rfl) ?_
 refine x1x rfl ?_
 refine y4y rfl rfl rfl ?_
 refine y0y rfl (fun hc6 => ?_) (fun hc6 => ?_)
 ·(simp [kI, kEv, kOu, kPa, kLa, kVi, mEv, mOu, mSt] at hc6; omega)
 try simp at hc6
 refine y1y ?_
 refine hK5 _ _ ?_
 clear hK5 K5
 refine x6x x9x (by rfl) ?_
 refine x0x rfl z6z rfl rfl p1p rfl rfl ?_
 refine x3x rfl p1p rfl rfl ?_
 refine x1x rfl ?_
 refine z1z rfl rfl rfl (b5w c n.views (k + szs zLa n.lanes + szs zEv n.kept + szs zOu n.outs) (by omega)) ?_
 refine x2x rfl ?_
 refine x7x fun K7 hK7 => ?_
 refine x6x x9x (by rfl) ?_
 refine x1x rfl ?_
 refine y4y rfl rfl rfl ?_
 refine y0y rfl (fun hc8 => ?_) (fun hc8 => ?_)
 ·(simp [kI, kEv, kOu, kPa, kLa, kVi, mEv, mOu, mSt] at hc8; omega)
 try simp at hc8
 refine y1y ?_
 refine hK7 _ _ ?_
 clear hK7 K7
 refine x6x x9x (by rfl) ?_
 refine x0x rfl z6z rfl rfl p4p rfl rfl ?_
 refine x3x rfl p4p rfl rfl ?_
 refine x1x rfl ?_
 refine z1z rfl rfl rfl (b8g c n.known (k + szs zLa n.lanes + szs zEv n.kept + szs zOu n.outs + szs zVi n.views) (by omega)) ?_
 refine x2x rfl ?_
 refine x7x fun K9 hK9 => ?_
 refine x6x x9x (by rfl) ?_
 refine x1x rfl ?_
 refine y4y rfl rfl rfl ?_
 refine y0y rfl (fun hc10 => ?_) (fun hc10 => ?_)
 ·(simp [kI, kEv, kOu, kPa, kLa, kVi, mEv, mOu, mSt] at hc10; omega)
 try simp at hc10
 refine y1y ?_
 refine hK9 _ _ ?_
 clear hK9 K9
 refine x6x x9x (by rfl) ?_
 refine x1x rfl ?_
 refine x2x rfl ?_
 refine y3y ⟨.inr rfl, ?_⟩
 refine z2z rfl ?_ rfl
 exact congrArg (fun v : Nat => [AV.pv (.int .i64 (v : Int))]) (by omega)
end
section
theorem c1x (c : Bool) (l : List Int) (left : Nat) (hl : left ≤ 1048576) : a0z Tryz.prog 98 [a4r c l, .pv (.int .i64 (left : Int))] (.pv (.int .i64 (lf left l.length))) := by
 refine z4z x9x (fn := Tryz.f98) (by kernel_rfl) (by kernel_rfl) rfl (outs := [.pv (.int .i64 (lf left l.length))]) (by rfl) (v7v rfl) 0 ?_
 refine w4w 0 rfl fun hlen => ?_
 refine x6x x9x (by rfl) ?_
 refine x2x rfl ?_
 refine x6x x9x (by rfl) ?_
 refine x1x rfl ?_
 refine x1x rfl ?_
 refine u3u rfl p4p rfl ?_
 refine a2g (.int .i64 ((left : Int) - (l.length : Int))) rfl rfl rfl (a9k rfl rfl (by omega) (by omega)) ?_
 refine x2x rfl ?_
 refine x7x fun K1 hK1 => ?_
 refine x6x x9x (by rfl) ?_
 refine x1x rfl ?_
 refine y4y rfl rfl rfl ?_
 refine y0y rfl (fun hc2 => ?_) (fun hc2 => ?_)
 ·try simp at hc2
  refine x6x x9x (by rfl) ?_
  refine x2x rfl ?_
  refine y3y ⟨.inr rfl, ?_⟩
  clear hK1 K1
  refine z2z rfl ?_ rfl
  exact congrArg (fun v : Int => [AV.pv (.int .i64 v)]) (a3w (by omega)).symm
 try simp at hc2
 refine y1y ?_
 refine hK1 _ _ ?_
 clear hK1 K1
 refine x6x x9x (by rfl) ?_
 refine x1x rfl ?_
 refine x2x rfl ?_
 refine y3y ⟨.inr rfl, ?_⟩
 refine z2z rfl ?_ rfl
 exact congrArg (fun v : Int => [AV.pv (.int .i64 v)]) ((a2k (by omega)).trans (by omega)).symm
theorem a4b (c : Bool) (l : List Ev) (left : Nat) (hl : left ≤ 1048576) : a0z Tryz.prog 51 [r7r c l, .pv (.int .i64 (left : Int))] (.pv (.int .i64 (lf left l.length))) := by
 refine z4z x9x (fn := Tryz.f51) (by kernel_rfl) (by kernel_rfl) rfl (outs := [.pv (.int .i64 (lf left l.length))]) (by rfl) (v7v rfl) 0 ?_
 refine w4w 0 rfl fun hlen => ?_
 refine x6x x9x (by rfl) ?_
 refine x2x rfl ?_
 refine x6x x9x (by rfl) ?_
 refine x1x rfl ?_
 refine x1x rfl ?_
 refine u3u rfl a7x rfl ?_
 refine a2g (.int .i64 ((left : Int) - (l.length : Int))) rfl rfl rfl (a9k rfl rfl (by omega) (by omega)) ?_
 refine x2x rfl ?_
 refine x7x fun K1 hK1 => ?_
 refine x6x x9x (by rfl) ?_
 refine x1x rfl ?_
 refine y4y rfl rfl rfl ?_
 refine y0y rfl (fun hc2 => ?_) (fun hc2 => ?_)
 ·try simp at hc2
  refine x6x x9x (by rfl) ?_
  refine x2x rfl ?_
  refine y3y ⟨.inr rfl, ?_⟩
  clear hK1 K1
  refine z2z rfl ?_ rfl
  exact congrArg (fun v : Int => [AV.pv (.int .i64 v)]) (a3w (by omega)).symm
 try simp at hc2
 refine y1y ?_
 refine hK1 _ _ ?_
 clear hK1 K1
 refine x6x x9x (by rfl) ?_
 refine x1x rfl ?_
 refine x2x rfl ?_
 refine y3y ⟨.inr rfl, ?_⟩
 refine z2z rfl ?_ rfl
 exact congrArg (fun v : Int => [AV.pv (.int .i64 v)]) ((a2k (by omega)).trans (by omega)).symm
theorem b3w (c : Bool) (l : List Ou) (left : Nat) (hl : left ≤ 1048576) : a0z Tryz.prog 96 [a1j c l, .pv (.int .i64 (left : Int))] (.pv (.int .i64 (lf left l.length))) := by
 refine z4z x9x (fn := Tryz.f96) (by kernel_rfl) (by kernel_rfl) rfl (outs := [.pv (.int .i64 (lf left l.length))]) (by rfl) (v7v rfl) 0 ?_
 refine w4w 0 rfl fun hlen => ?_
 refine x6x x9x (by rfl) ?_
 refine x2x rfl ?_
 refine x6x x9x (by rfl) ?_
 refine x1x rfl ?_
 refine x1x rfl ?_
 refine u3u rfl b2u rfl ?_
 refine a2g (.int .i64 ((left : Int) - (l.length : Int))) rfl rfl rfl (a9k rfl rfl (by omega) (by omega)) ?_
 refine x2x rfl ?_
 refine x7x fun K1 hK1 => ?_
 refine x6x x9x (by rfl) ?_
 refine x1x rfl ?_
 refine y4y rfl rfl rfl ?_
 refine y0y rfl (fun hc2 => ?_) (fun hc2 => ?_)
 ·try simp at hc2
  refine x6x x9x (by rfl) ?_
  refine x2x rfl ?_
  refine y3y ⟨.inr rfl, ?_⟩
  clear hK1 K1
  refine z2z rfl ?_ rfl
  exact congrArg (fun v : Int => [AV.pv (.int .i64 v)]) (a3w (by omega)).symm
 try simp at hc2
 refine y1y ?_
 refine hK1 _ _ ?_
 clear hK1 K1
 refine x6x x9x (by rfl) ?_
 refine x1x rfl ?_
 refine x2x rfl ?_
 refine y3y ⟨.inr rfl, ?_⟩
 refine z2z rfl ?_ rfl
 exact congrArg (fun v : Int => [AV.pv (.int .i64 v)]) ((a2k (by omega)).trans (by omega)).symm
theorem c1y (c : Bool) (p : Pa) (left : Nat) (hl : left ≤ 1048576) : a0z Tryz.prog 252 [.agg (a0s c p), .pv (.int .i64 (left : Int))] (.pv (.int .i64 (lf left (cPa p)))) := by
 refine z4z x9x (fn := Tryz.f252) (by kernel_rfl) (by kernel_rfl) rfl (outs := [.pv (.int .i64 (lf left (cPa p)))]) (by rfl) (v7v rfl) 1 ?_
 have hc : cPa p = p.sends.length + p.outs.length := rfl
 refine x6x x9x (by rfl) ?_
 refine v4v (id := 0) rfl rfl rfl ?_
 refine x2x rfl ?_
 refine x6x x9x (by rfl) ?_
 refine x0x rfl a8x rfl rfl a7x rfl rfl ?_
 refine x3x rfl a7x rfl rfl ?_
 refine x1x rfl ?_
 refine z1z rfl rfl rfl (a4b c p.sends left hl) ?_
 refine x2x rfl ?_
 refine x7x fun K1 hK1 => ?_
 refine x6x x9x (by rfl) ?_
 refine x1x rfl ?_
 refine y4y rfl rfl rfl ?_
 refine y0y rfl (fun hc2 => ?_) (fun hc2 => ?_)
 ·try simp at hc2
  have hT := b5q hc2
  refine x6x x9x (by rfl) ?_
  refine x2x rfl ?_
  refine y3y ⟨.inr rfl, ?_⟩
  clear hK1 K1
  refine z2z rfl ?_ rfl
  exact congrArg (fun v : Int => [AV.pv (.int .i64 v)]) (a3w (by omega)).symm
 try simp at hc2
 have h10 : p.sends.length ≤ left := b3p (by omega)
 rw [a2k h10]
 refine y1y ?_
 refine hK1 _ _ ?_
 clear hK1 K1
 refine x6x x9x (by rfl) ?_
 refine x0x rfl a8x rfl rfl b2u rfl rfl ?_
 refine x3x rfl b2u rfl rfl ?_
 refine x1x rfl ?_
 refine z1z rfl rfl rfl (b3w c p.outs (left - p.sends.length) (by omega)) ?_
 refine x2x rfl ?_
 refine x7x fun K3 hK3 => ?_
 refine x6x x9x (by rfl) ?_
 refine x1x rfl ?_
 refine y4y rfl rfl rfl ?_
 refine y0y rfl (fun hc4 => ?_) (fun hc4 => ?_)
 ·try simp at hc4
  have hT := b5q hc4
  refine x6x x9x (by rfl) ?_
  refine x2x rfl ?_
  refine y3y ⟨.inr rfl, ?_⟩
  clear hK3 K3
  refine z2z rfl ?_ rfl
  exact congrArg (fun v : Int => [AV.pv (.int .i64 v)]) (a3w (by omega)).symm
 try simp at hc4
 have h16 : p.outs.length ≤ (left - p.sends.length) := b3p (by omega)
 rw [a2k h16]
 refine y1y ?_
 refine hK3 _ _ ?_
 clear hK3 K3
 refine x6x x9x (by rfl) ?_
 refine x1x rfl ?_
 refine x2x rfl ?_
 refine y3y ⟨.inr rfl, ?_⟩
 refine z2z rfl ?_ rfl
 exact congrArg (fun v : Int => [AV.pv (.int .i64 v)]) ((a2k (by omega)).trans (by omega)).symm
theorem b9a (c : Bool) (l : List Pa) (left : Nat) (hl : left ≤ 1048576) : a0z Tryz.prog 226 [a3p c l, .pv (.int .i64 (left : Int))] (.pv (.int .i64 (lf left (c1g l)))) := by
 refine z4z x9x (fn := Tryz.f226) (by kernel_rfl) (by kernel_rfl) rfl (outs := [.pv (.int .i64 (lf left (c1g l)))]) (by rfl) (v7v rfl) 0 ?_
 refine w4w 0 rfl fun hlen => ?_
 have hc : c1g l = l.length + szs cPa l := rfl
 refine x6x x9x (by rfl) ?_
 refine x2x rfl ?_
 refine x6x x9x (by rfl) ?_
 refine x1x rfl ?_
 refine x1x rfl ?_
 refine u3u rfl a9t rfl ?_
 refine a2g (.int .i64 ((left : Int) - (l.length : Int))) rfl rfl rfl (a9k rfl rfl (by omega) (by omega)) ?_
 refine x2x rfl ?_
 refine x7x fun K1 hK1 => ?_
 refine x6x x9x (by rfl) ?_
 refine x1x rfl ?_
 refine y4y rfl rfl rfl ?_
 refine y0y rfl (fun hc2 => ?_) (fun hc2 => ?_)
 ·try simp at hc2
  refine x6x x9x (by rfl) ?_
  refine x2x rfl ?_
  refine y3y ⟨.inr rfl, ?_⟩
  clear hK1 K1
  refine z2z rfl ?_ rfl
  exact congrArg (fun v : Int => [AV.pv (.int .i64 v)]) (a3w (by omega)).symm
 try simp at hc2
 refine y1y ?_
 refine hK1 _ _ ?_
 clear hK1 K1
 refine x7x fun K3 hK3 => ?_
 refine x6x x9x (by rfl) ?_
 refine x2x rfl ?_
 refine y6y ?_
 refine u5u (ι := Nat) (fun i γ1 => [(1, .pv (.int .i64 ((left - (l.length + szs cPa (l.take i)) : Nat) : Int))), (5, .pv (.int .i64 (i : Int)))]) (fun i γ1 => []) (fun i => i ≤ l.length ∧ l.length + szs cPa (l.take i) ≤ left) (fun i => l.length - i) (x4x 0 rfl Cov.nil) HE.nil 0 ⟨by omega, by rw [List.take_zero]; show l.length + 0 ≤ left; omega⟩ [] (Cov.cons' (t := 1) rfl (by rw [List.take_zero]; exact congrArg (fun v : Int => AV.pv (.int .i64 v)) (by show _ = ((left - (l.length + 0) : Nat) : Int); omega)) (x4x 5 rfl Cov.nil)) HE.nil rfl fun i γ1 hi => ?_
 try dsimp only [List.cons_append, List.nil_append]
 obtain ⟨h1, h2⟩ := hi
 refine x7x fun K4 hK4 => ?_
 refine x6x x9x (by rfl) ?_
 refine x1x rfl ?_
 refine x1x rfl ?_
 refine u3u rfl a9t rfl ?_
 refine y4y rfl rfl rfl ?_
 refine y0y rfl (fun hc5 => ?_) (fun hc5 => ?_)
 rotate_left
 ·try simp at hc5
  obtain rfl : i = l.length := by omega
  rw [List.take_length] at h2 ⊢
  refine v0v ?_
  refine hK3 _ _ ?_
  clear hK4 K4 hK3 K3
  refine x6x x9x (by rfl) ?_
  refine x1x rfl ?_
  refine x2x rfl ?_
  refine y3y ⟨.inr rfl, ?_⟩
  refine z2z rfl ?_ rfl
  exact congrArg (fun v : Int => [AV.pv (.int .i64 v)]) ((a2k (by omega)).trans (by omega)).symm
 try simp at hc5
 obtain ⟨p, hp⟩ : ∃ p, l[i]? = some p := w5w (by omega)
 have hat := a3f cPa hp
 refine y1y ?_
 refine hK4 _ _ ?_
 clear hK4 K4
 refine x7x fun K6 hK6 => ?_
 refine y6y ?_
 refine x6x x9x (by rfl) ?_
 refine x1x rfl ?_
 refine x1x rfl ?_
 refine u0u rfl rfl a9t rfl a8x rfl (by assumption) ?_
 refine z5z rfl a8x rfl rfl ?_
 refine x1x rfl ?_
 refine z1z rfl rfl rfl (c1y c p (left - (l.length + szs cPa (l.take i))) (by omega)) ?_
 refine x2x rfl ?_
 refine x6x x9x (by rfl) ?_
 refine x1x rfl ?_
 refine y4y rfl rfl rfl ?_
 refine y0y rfl (fun hc7 => ?_) (fun hc7 => ?_)
 ·try simp at hc7
  have hT := b5q hc7
  refine x6x x9x (by rfl) ?_
  refine x2x rfl ?_
  refine y3y ⟨.inr rfl, ?_⟩
  clear hK6 K6 hK3 K3
  refine z2z rfl ?_ rfl
  exact congrArg (fun v : Int => [AV.pv (.int .i64 v)]) (a3w (by omega)).symm
 try simp at hc7
 have h25 : cPa p ≤ left - (l.length + szs cPa (l.take i)) := b3p (by omega)
 rw [a2k h25]
 refine y1y ?_
 refine hK6 _ _ ?_
 clear hK6 K6
 refine y2y x9x (by rfl) ?_
 refine x1x rfl ?_
 refine y4y rfl rfl rfl ?_
 refine x2x rfl ?_
 exact ⟨i + 1, ⟨⟨by omega, by rw [a0u cPa hp]; omega⟩, by omega⟩, [], (Cov.cons' (t := 1) rfl (by rw [a0u cPa hp]; exact congrArg (fun v : Nat => AV.pv (.int .i64 (v : Int))) (by omega)) (Cov.cons' (t := 5) rfl (by rw [u9u (by omega) (by omega)]; rfl) Cov.nil)), (x4x 0 rfl Cov.nil), HE.nil, HE.nil, rfl⟩
theorem c1z (c : Bool) (p : La) (left : Nat) (hl : left ≤ 1048576) : a0z Tryz.prog 181 [.agg (a0v c p), .pv (.int .i64 (left : Int))] (.pv (.int .i64 (lf left (cLa p)))) := by
 refine z4z x9x (fn := Tryz.f181) (by kernel_rfl) (by kernel_rfl) rfl (outs := [.pv (.int .i64 (lf left (cLa p)))]) (by rfl) (v7v rfl) 1 ?_
 have hc : cLa p = c1g p.done := rfl
 refine x6x x9x (by rfl) ?_
 refine v4v (id := 0) rfl rfl rfl ?_
 refine x2x rfl ?_
 refine x6x x9x (by rfl) ?_
 refine x0x rfl b0z rfl rfl a9t rfl rfl ?_
 refine x3x rfl a9t rfl rfl ?_
 refine x1x rfl ?_
 refine z1z rfl rfl rfl (b9a c p.done left hl) ?_
 refine x2x rfl ?_
 refine x7x fun K1 hK1 => ?_
 refine x6x x9x (by rfl) ?_
 refine x1x rfl ?_
 refine y4y rfl rfl rfl ?_
 refine y0y rfl (fun hc2 => ?_) (fun hc2 => ?_)
 ·try simp at hc2
  have hT := b5q hc2
  refine x6x x9x (by rfl) ?_
  refine x2x rfl ?_
  refine y3y ⟨.inr rfl, ?_⟩
  clear hK1 K1
  refine z2z rfl ?_ rfl
  exact congrArg (fun v : Int => [AV.pv (.int .i64 v)]) (a3w (by omega)).symm
 try simp at hc2
 have h10 : c1g p.done ≤ left := b3p (by omega)
 rw [a2k h10]
 refine y1y ?_
 refine hK1 _ _ ?_
 clear hK1 K1
 refine x6x x9x (by rfl) ?_
 refine x1x rfl ?_
 refine x2x rfl ?_
 refine y3y ⟨.inr rfl, ?_⟩
 refine z2z rfl ?_ rfl
 exact congrArg (fun v : Int => [AV.pv (.int .i64 v)]) ((a2k (by omega)).trans (by omega)).symm
theorem b9c (c : Bool) (l : List La) (left : Nat) (hl : left ≤ 1048576) : a0z Tryz.prog 95 [c1q c l, .pv (.int .i64 (left : Int))] (.pv (.int .i64 (lf left (b5m l)))) := by
 refine z4z x9x (fn := Tryz.f95) (by kernel_rfl) (by kernel_rfl) rfl (outs := [.pv (.int .i64 (lf left (b5m l)))]) (by rfl) (v7v rfl) 0 ?_
 refine w4w 0 rfl fun hlen => ?_
 have hc : b5m l = l.length + szs cLa l := rfl
 refine x6x x9x (by rfl) ?_
 refine x2x rfl ?_
 refine x6x x9x (by rfl) ?_
 refine x1x rfl ?_
 refine x1x rfl ?_
 refine u3u rfl b6v rfl ?_
 refine a2g (.int .i64 ((left : Int) - (l.length : Int))) rfl rfl rfl (a9k rfl rfl (by omega) (by omega)) ?_
 refine x2x rfl ?_
 refine x7x fun K1 hK1 => ?_
 refine x6x x9x (by rfl) ?_
 refine x1x rfl ?_
 refine y4y rfl rfl rfl ?_
 refine y0y rfl (fun hc2 => ?_) (fun hc2 => ?_)
 ·try simp at hc2
  refine x6x x9x (by rfl) ?_
  refine x2x rfl ?_
  refine y3y ⟨.inr rfl, ?_⟩
  clear hK1 K1
  refine z2z rfl ?_ rfl
  exact congrArg (fun v : Int => [AV.pv (.int .i64 v)]) (a3w (by omega)).symm
 try simp at hc2
 refine y1y ?_
 refine hK1 _ _ ?_
 clear hK1 K1
 refine x7x fun K3 hK3 => ?_
 refine x6x x9x (by rfl) ?_
 refine x2x rfl ?_
 refine y6y ?_
 refine u5u (ι := Nat) (fun i γ1 => [(1, .pv (.int .i64 ((left - (l.length + szs cLa (l.take i)) : Nat) : Int))), (5, .pv (.int .i64 (i : Int)))]) (fun i γ1 => []) (fun i => i ≤ l.length ∧ l.length + szs cLa (l.take i) ≤ left) (fun i => l.length - i) (x4x 0 rfl Cov.nil) HE.nil 0 ⟨by omega, by rw [List.take_zero]; show l.length + 0 ≤ left; omega⟩ [] (Cov.cons' (t := 1) rfl (by rw [List.take_zero]; exact congrArg (fun v : Int => AV.pv (.int .i64 v)) (by show _ = ((left - (l.length + 0) : Nat) : Int); omega)) (x4x 5 rfl Cov.nil)) HE.nil rfl fun i γ1 hi => ?_
 try dsimp only [List.cons_append, List.nil_append]
 obtain ⟨h1, h2⟩ := hi
 refine x7x fun K4 hK4 => ?_
 refine x6x x9x (by rfl) ?_
 refine x1x rfl ?_
 refine x1x rfl ?_
 refine u3u rfl b6v rfl ?_
 refine y4y rfl rfl rfl ?_
 refine y0y rfl (fun hc5 => ?_) (fun hc5 => ?_)
 rotate_left
 ·try simp at hc5
  obtain rfl : i = l.length := by omega
  rw [List.take_length] at h2 ⊢
  refine v0v ?_
  refine hK3 _ _ ?_
  clear hK4 K4 hK3 K3
  refine x6x x9x (by rfl) ?_
  refine x1x rfl ?_
  refine x2x rfl ?_
  refine y3y ⟨.inr rfl, ?_⟩
  refine z2z rfl ?_ rfl
  exact congrArg (fun v : Int => [AV.pv (.int .i64 v)]) ((a2k (by omega)).trans (by omega)).symm
 try simp at hc5
 obtain ⟨p, hp⟩ : ∃ p, l[i]? = some p := w5w (by omega)
 have hat := a3f cLa hp
 refine y1y ?_
 refine hK4 _ _ ?_
 clear hK4 K4
 refine x7x fun K6 hK6 => ?_
 refine y6y ?_
 refine x6x x9x (by rfl) ?_
 refine x1x rfl ?_
 refine x1x rfl ?_
 refine u0u rfl rfl b6v rfl b0z rfl (by assumption) ?_
 refine z5z rfl b0z rfl rfl ?_
 refine x1x rfl ?_
 refine z1z rfl rfl rfl (c1z c p (left - (l.length + szs cLa (l.take i))) (by omega)) ?_
 refine x2x rfl ?_
 refine x6x x9x (by rfl) ?_
 refine x1x rfl ?_
 refine y4y rfl rfl rfl ?_
 refine y0y rfl (fun hc7 => ?_) (fun hc7 => ?_)
 ·try simp at hc7
  have hT := b5q hc7
  refine x6x x9x (by rfl) ?_
  refine x2x rfl ?_
  refine y3y ⟨.inr rfl, ?_⟩
  clear hK6 K6 hK3 K3
  refine z2z rfl ?_ rfl
  exact congrArg (fun v : Int => [AV.pv (.int .i64 v)]) (a3w (by omega)).symm
 try simp at hc7
 have h25 : cLa p ≤ left - (l.length + szs cLa (l.take i)) := b3p (by omega)
 rw [a2k h25]
 refine y1y ?_
 refine hK6 _ _ ?_
 clear hK6 K6
 refine y2y x9x (by rfl) ?_
 refine x1x rfl ?_
 refine y4y rfl rfl rfl ?_
 refine x2x rfl ?_
 exact ⟨i + 1, ⟨⟨by omega, by rw [a0u cLa hp]; omega⟩, by omega⟩, [], (Cov.cons' (t := 1) rfl (by rw [a0u cLa hp]; exact congrArg (fun v : Nat => AV.pv (.int .i64 (v : Int))) (by omega)) (Cov.cons' (t := 5) rfl (by rw [u9u (by omega) (by omega)]; rfl) Cov.nil)), (x4x 0 rfl Cov.nil), HE.nil, HE.nil, rfl⟩
theorem c2a (c : Bool) (p : Vi) (left : Nat) (hl : left ≤ 1048576) : a0z Tryz.prog 182 [.agg (a1n c p), .pv (.int .i64 (left : Int))] (.pv (.int .i64 (lf left (cVi p)))) := by
 refine z4z x9x (fn := Tryz.f182) (by kernel_rfl) (by kernel_rfl) rfl (outs := [.pv (.int .i64 (lf left (cVi p)))]) (by rfl) (v7v rfl) 1 ?_
 have hc : cVi p = p.events.length := rfl
 refine x6x x9x (by rfl) ?_
 refine v4v (id := 0) rfl rfl rfl ?_
 refine x2x rfl ?_
 refine x6x x9x (by rfl) ?_
 refine x0x rfl b1a rfl rfl a7x rfl rfl ?_
 refine x3x rfl a7x rfl rfl ?_
 refine x1x rfl ?_
 refine z1z rfl rfl rfl (a4b c p.events left hl) ?_
 refine x2x rfl ?_
 refine x7x fun K1 hK1 => ?_
 refine x6x x9x (by rfl) ?_
 refine x1x rfl ?_
 refine y4y rfl rfl rfl ?_
 refine y0y rfl (fun hc2 => ?_) (fun hc2 => ?_)
 ·try simp at hc2
  have hT := b5q hc2
  refine x6x x9x (by rfl) ?_
  refine x2x rfl ?_
  refine y3y ⟨.inr rfl, ?_⟩
  clear hK1 K1
  refine z2z rfl ?_ rfl
  exact congrArg (fun v : Int => [AV.pv (.int .i64 v)]) (a3w (by omega)).symm
 try simp at hc2
 have h10 : p.events.length ≤ left := b3p (by omega)
 rw [a2k h10]
 refine y1y ?_
 refine hK1 _ _ ?_
 clear hK1 K1
 refine x6x x9x (by rfl) ?_
 refine x1x rfl ?_
 refine x2x rfl ?_
 refine y3y ⟨.inr rfl, ?_⟩
 refine z2z rfl ?_ rfl
 exact congrArg (fun v : Int => [AV.pv (.int .i64 v)]) ((a2k (by omega)).trans (by omega)).symm
theorem b9d (c : Bool) (l : List Vi) (left : Nat) (hl : left ≤ 1048576) : a0z Tryz.prog 97 [c1r c l, .pv (.int .i64 (left : Int))] (.pv (.int .i64 (lf left (c0e l)))) := by
 refine z4z x9x (fn := Tryz.f97) (by kernel_rfl) (by kernel_rfl) rfl (outs := [.pv (.int .i64 (lf left (c0e l)))]) (by rfl) (v7v rfl) 0 ?_
 refine w4w 0 rfl fun hlen => ?_
 have hc : c0e l = l.length + szs cVi l := rfl
 refine x6x x9x (by rfl) ?_
 refine x2x rfl ?_
 refine x6x x9x (by rfl) ?_
 refine x1x rfl ?_
 refine x1x rfl ?_
 refine u3u rfl b6w rfl ?_
 refine a2g (.int .i64 ((left : Int) - (l.length : Int))) rfl rfl rfl (a9k rfl rfl (by omega) (by omega)) ?_
 refine x2x rfl ?_
 refine x7x fun K1 hK1 => ?_
 refine x6x x9x (by rfl) ?_
 refine x1x rfl ?_
 refine y4y rfl rfl rfl ?_
 refine y0y rfl (fun hc2 => ?_) (fun hc2 => ?_)
 ·try simp at hc2
  refine x6x x9x (by rfl) ?_
  refine x2x rfl ?_
  refine y3y ⟨.inr rfl, ?_⟩
  clear hK1 K1
  refine z2z rfl ?_ rfl
  exact congrArg (fun v : Int => [AV.pv (.int .i64 v)]) (a3w (by omega)).symm
 try simp at hc2
 refine y1y ?_
 refine hK1 _ _ ?_
 clear hK1 K1
 refine x7x fun K3 hK3 => ?_
 refine x6x x9x (by rfl) ?_
 refine x2x rfl ?_
 refine y6y ?_
 refine u5u (ι := Nat) (fun i γ1 => [(1, .pv (.int .i64 ((left - (l.length + szs cVi (l.take i)) : Nat) : Int))), (5, .pv (.int .i64 (i : Int)))]) (fun i γ1 => []) (fun i => i ≤ l.length ∧ l.length + szs cVi (l.take i) ≤ left) (fun i => l.length - i) (x4x 0 rfl Cov.nil) HE.nil 0 ⟨by omega, by rw [List.take_zero]; show l.length + 0 ≤ left; omega⟩ [] (Cov.cons' (t := 1) rfl (by rw [List.take_zero]; exact congrArg (fun v : Int => AV.pv (.int .i64 v)) (by show _ = ((left - (l.length + 0) : Nat) : Int); omega)) (x4x 5 rfl Cov.nil)) HE.nil rfl fun i γ1 hi => ?_
 try dsimp only [List.cons_append, List.nil_append]
 obtain ⟨h1, h2⟩ := hi
 refine x7x fun K4 hK4 => ?_
 refine x6x x9x (by rfl) ?_
 refine x1x rfl ?_
 refine x1x rfl ?_
 refine u3u rfl b6w rfl ?_
 refine y4y rfl rfl rfl ?_
 refine y0y rfl (fun hc5 => ?_) (fun hc5 => ?_)
 rotate_left
 ·try simp at hc5
  obtain rfl : i = l.length := by omega
  rw [List.take_length] at h2 ⊢
  refine v0v ?_
  refine hK3 _ _ ?_
  clear hK4 K4 hK3 K3
  refine x6x x9x (by rfl) ?_
  refine x1x rfl ?_
  refine x2x rfl ?_
  refine y3y ⟨.inr rfl, ?_⟩
  refine z2z rfl ?_ rfl
  exact congrArg (fun v : Int => [AV.pv (.int .i64 v)]) ((a2k (by omega)).trans (by omega)).symm
 try simp at hc5
 obtain ⟨p, hp⟩ : ∃ p, l[i]? = some p := w5w (by omega)
 have hat := a3f cVi hp
 refine y1y ?_
 refine hK4 _ _ ?_
 clear hK4 K4
 refine x7x fun K6 hK6 => ?_
 refine y6y ?_
 refine x6x x9x (by rfl) ?_
 refine x1x rfl ?_
 refine x1x rfl ?_
 refine u0u rfl rfl b6w rfl b1a rfl (by assumption) ?_
 refine z5z rfl b1a rfl rfl ?_
 refine x1x rfl ?_
 refine z1z rfl rfl rfl (c2a c p (left - (l.length + szs cVi (l.take i))) (by omega)) ?_
 refine x2x rfl ?_
 refine x6x x9x (by rfl) ?_
 refine x1x rfl ?_
 refine y4y rfl rfl rfl ?_
 refine y0y rfl (fun hc7 => ?_) (fun hc7 => ?_)
 ·try simp at hc7
  have hT := b5q hc7
  refine x6x x9x (by rfl) ?_
  refine x2x rfl ?_
  refine y3y ⟨.inr rfl, ?_⟩
  clear hK6 K6 hK3 K3
  refine z2z rfl ?_ rfl
  exact congrArg (fun v : Int => [AV.pv (.int .i64 v)]) (a3w (by omega)).symm
 try simp at hc7
 have h25 : cVi p ≤ left - (l.length + szs cVi (l.take i)) := b3p (by omega)
 rw [a2k h25]
 refine y1y ?_
 refine hK6 _ _ ?_
 clear hK6 K6
 refine y2y x9x (by rfl) ?_
 refine x1x rfl ?_
 refine y4y rfl rfl rfl ?_
 refine x2x rfl ?_
 exact ⟨i + 1, ⟨⟨by omega, by rw [a0u cVi hp]; omega⟩, by omega⟩, [], (Cov.cons' (t := 1) rfl (by rw [a0u cVi hp]; exact congrArg (fun v : Nat => AV.pv (.int .i64 (v : Int))) (by omega)) (Cov.cons' (t := 5) rfl (by rw [u9u (by omega) (by omega)]; rfl) Cov.nil)), (x4x 0 rfl Cov.nil), HE.nil, HE.nil, rfl⟩
theorem c2b (c : Bool) (p : Nd) (left : Nat) (hl : left ≤ 1048576) : a0z Tryz.prog 23 [.agg (a1i c p), .pv (.int .i64 (left : Int))] (.pv (.int .i64 (lf left (cNd p)))) := by
 refine z4z x9x (fn := Tryz.f23) (by kernel_rfl) (by kernel_rfl) rfl (outs := [.pv (.int .i64 (lf left (cNd p)))]) (by rfl) (v7v rfl) 1 ?_
 have hc : cNd p = b5m p.lanes + p.kept.length + p.outs.length + c0e p.views + p.known.length := rfl
 refine x6x x9x (by rfl) ?_
 refine v4v (id := 0) rfl rfl rfl ?_
 refine x2x rfl ?_
 refine x6x x9x (by rfl) ?_
 refine x0x rfl a4u rfl rfl b6v rfl rfl ?_
 refine x3x rfl b6v rfl rfl ?_
 refine x1x rfl ?_
 refine z1z rfl rfl rfl (b9c c p.lanes left hl) ?_
 refine x2x rfl ?_
 refine x7x fun K1 hK1 => ?_
 refine x6x x9x (by rfl) ?_
 refine x1x rfl ?_
 refine y4y rfl rfl rfl ?_
 refine y0y rfl (fun hc2 => ?_) (fun hc2 => ?_)
 ·try simp at hc2
  have hT := b5q hc2
  refine x6x x9x (by rfl) ?_
  refine x2x rfl ?_
  refine y3y ⟨.inr rfl, ?_⟩
  clear hK1 K1
  refine z2z rfl ?_ rfl
  exact congrArg (fun v : Int => [AV.pv (.int .i64 v)]) (a3w (by omega)).symm
 try simp at hc2
 have h10 : b5m p.lanes ≤ left := b3p (by omega)
 rw [a2k h10]
 refine y1y ?_
 refine hK1 _ _ ?_
 clear hK1 K1
 refine x6x x9x (by rfl) ?_
 refine x0x rfl a4u rfl rfl a7x rfl rfl ?_
 refine x3x rfl a7x rfl rfl ?_
 refine x1x rfl ?_
 refine z1z rfl rfl rfl (a4b c p.kept (left - b5m p.lanes) (by omega)) ?_
 refine x2x rfl ?_
 refine x7x fun K3 hK3 => ?_
 refine x6x x9x (by rfl) ?_
 refine x1x rfl ?_
 refine y4y rfl rfl rfl ?_
 refine y0y rfl (fun hc4 => ?_) (fun hc4 => ?_)
 ·try simp at hc4
  have hT := b5q hc4
  refine x6x x9x (by rfl) ?_
  refine x2x rfl ?_
  refine y3y ⟨.inr rfl, ?_⟩
  clear hK3 K3
  refine z2z rfl ?_ rfl
  exact congrArg (fun v : Int => [AV.pv (.int .i64 v)]) (a3w (by omega)).symm
 try simp at hc4
 have h16 : p.kept.length ≤ (left - b5m p.lanes) := b3p (by omega)
 rw [a2k h16]
 refine y1y ?_
 refine hK3 _ _ ?_
 clear hK3 K3
 refine x6x x9x (by rfl) ?_
 refine x0x rfl a4u rfl rfl b2u rfl rfl ?_
 refine x3x rfl b2u rfl rfl ?_
 refine x1x rfl ?_
 refine z1z rfl rfl rfl (b3w c p.outs (left - b5m p.lanes - p.kept.length) (by omega)) ?_
 refine x2x rfl ?_
 refine x7x fun K5 hK5 => ?_
 refine x6x x9x (by rfl) ?_
 refine x1x rfl ?_
 refine y4y rfl rfl rfl ?_
 refine y0y rfl (fun hc6 => ?_) (fun hc6 => ?_)
 ·try simp at hc6
  have hT := b5q hc6
  refine x6x x9x (by rfl) ?_
  refine x2x rfl ?_
  refine y3y ⟨.inr rfl, ?_⟩
  clear hK5 K5
  refine z2z rfl ?_ rfl
  exact congrArg (fun v : Int => [AV.pv (.int .i64 v)]) (a3w (by omega)).symm
 try simp at hc6
 have h22 : p.outs.length ≤ ((left - b5m p.lanes) - p.kept.length) := b3p (by omega)
 rw [a2k h22]
 refine y1y ?_
 refine hK5 _ _ ?_
 clear hK5 K5
 refine x6x x9x (by rfl) ?_
 refine x0x rfl a4u rfl rfl b6w rfl rfl ?_
 refine x3x rfl b6w rfl rfl ?_
 refine x1x rfl ?_
 refine z1z rfl rfl rfl (b9d c p.views (left - b5m p.lanes - p.kept.length - p.outs.length) (by omega)) ?_
 refine x2x rfl ?_
 refine x7x fun K7 hK7 => ?_
 refine x6x x9x (by rfl) ?_
 refine x1x rfl ?_
 refine y4y rfl rfl rfl ?_
 refine y0y rfl (fun hc8 => ?_) (fun hc8 => ?_)
 ·try simp at hc8
  have hT := b5q hc8
  refine x6x x9x (by rfl) ?_
  refine x2x rfl ?_
  refine y3y ⟨.inr rfl, ?_⟩
  clear hK7 K7
  refine z2z rfl ?_ rfl
  exact congrArg (fun v : Int => [AV.pv (.int .i64 v)]) (a3w (by omega)).symm
 try simp at hc8
 have h28 : c0e p.views ≤ (((left - b5m p.lanes) - p.kept.length) - p.outs.length) := b3p (by omega)
 rw [a2k h28]
 refine y1y ?_
 refine hK7 _ _ ?_
 clear hK7 K7
 refine x6x x9x (by rfl) ?_
 refine x0x rfl a4u rfl rfl p4p rfl rfl ?_
 refine x3x rfl p4p rfl rfl ?_
 refine x1x rfl ?_
 refine z1z rfl rfl rfl (c1x c p.known (left - b5m p.lanes - p.kept.length - p.outs.length - c0e p.views) (by omega)) ?_
 refine x2x rfl ?_
 refine x7x fun K9 hK9 => ?_
 refine x6x x9x (by rfl) ?_
 refine x1x rfl ?_
 refine y4y rfl rfl rfl ?_
 refine y0y rfl (fun hc10 => ?_) (fun hc10 => ?_)
 ·try simp at hc10
  have hT := b5q hc10
  refine x6x x9x (by rfl) ?_
  refine x2x rfl ?_
  refine y3y ⟨.inr rfl, ?_⟩
  clear hK9 K9
  refine z2z rfl ?_ rfl
  exact congrArg (fun v : Int => [AV.pv (.int .i64 v)]) (a3w (by omega)).symm
 try simp at hc10
 have h34 : p.known.length ≤ ((((left - b5m p.lanes) - p.kept.length) - p.outs.length) - c0e p.views) := b3p (by omega)
 rw [a2k h34]
 refine y1y ?_
 refine hK9 _ _ ?_
 clear hK9 K9
 refine x6x x9x (by rfl) ?_
 refine x1x rfl ?_
 refine x2x rfl ?_
 refine y3y ⟨.inr rfl, ?_⟩
 refine z2z rfl ?_ rfl
 exact congrArg (fun v : Int => [AV.pv (.int .i64 v)]) ((a2k (by omega)).trans (by omega)).symm
end
end Go.Proofs.YtpadkogpeobboaaGreat.Am
