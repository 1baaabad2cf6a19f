/- Part 4 of the texts that the proof of LawFnNodeSettle leans on, merged by program. -/
import Derived.Test.YtlgknoapdbpojaaGreatKs3
set_option linter.unusedVariables false
set_option linter.unusedSimpArgs false
set_option maxHeartbeats 4000000
set_option autoImplicit true
set_option relaxedAutoImplicit true
namespace Go.Proofs.YtlgknoapdbpojaaGreat.Am
open Go Go.RowKit
section
variable {P : Program} {tt : TT} {ops : Array Oper} {r : List Oper} {fr : Fr} {h : Hp} {lg : Log} {K : Fr → Hp → Log → Prop} {d : Nat} {ty : TypeId} {pos : String} {af : Array Edge}
variable {t e id g id2 g2 ty2 : Nat} {x y : Operand} {S E : TS}

theorem e8q (htt : a2p P tt) {xs ys zs zs' : List (List AV)} (hx : evO fr x = some (.ref id g)) (hy : evO fr y = some (.ref id2 g2)) (hs : tt t = some S) (hk : S.kind = .sl e) (he : tt e = some E) (h2 : Nat.ble 1 E.size = true) (h3 : Nat.ble 1 E.bytes = true) (hh : y5y h id = some (g, .row e E.size xs)) (hh2 : y5y h id2 = some (g2, .row ty2 E.size ys))
  (how : (ys.flatten.all fun c => !c.isOw) = true) (hz : xs ++ ys = zs) (h4 : zs.length * E.bytes ≤ 140737488355328) (hle : Le true (.row .ow e E.size zs) (.row (.rd true) e E.size zs')) (k : v3v P tt ops r ((d, .row (.rd true) e E.size zs') :: fr) ((id, (g + 1, .dead)) :: h) (([id, id2], [id]) :: lg) K) :
  v3v P tt ops (⟨some d, .call { callee := .builtin .append, args := #[x, y], argTypes := #[t, t] }, ty, pos, af, none⟩ :: r) fr h lg K := by
 subst hz
 exact a5v (OpS.frz (b5n (T := [(id2, (g2, .row ty2 E.size ys))]) htt (h := h) rfl hs hk he hx hy (.inl (e1g hh2)) how (Nat.le_of_ble_eq_true h2) (Nat.le_of_ble_eq_true h3) (by rw [← List.length_append]; exact h4)) hle) (InH.cons hh (InH.one hh2)) Sub.one' k

theorem e8r (htt : a2p P tt) {α : Type} {f : α → List AV} {l l2 l' : List α} {id g id2 g2 ty2 lo hi : Nat} (hx : evO fr x = some (.ref id g)) (hy : evO fr y = some (.cut id2 g2 lo hi)) (hs : tt t = some S) (hk : S.kind = .sl e) (he : tt e = some E) (h2 : Nat.ble 1 E.size = true) (h3 : Nat.ble 1 E.bytes = true) (hh : y5y h id = some (g, .row e E.size (l.map f))) (hh2 : y5y h id2 = some (g2, .row ty2 E.size (l2.map f)))
  (hf : ∀ a, ((f a).all AV.cl) = true) (how : ((((l2.take hi).drop lo).map f).flatten.all fun c => !c.isOw) = true) (hz : l ++ (l2.take hi).drop lo = l') (h4 : l'.length * E.bytes ≤ 140737488355328) (k : v3v P tt ops r ((d, .row (.rd true) e E.size (l'.map f)) :: fr) ((id, (g + 1, .dead)) :: h) (([id, id2], [id]) :: lg) K) :
  v3v P tt ops (⟨some d, .call { callee := .builtin .append, args := #[x, y], argTypes := #[t, t] }, ty, pos, af, none⟩ :: r) fr h lg K := by
 subst hz
 have hm : l.map f ++ ((l2.map f).take hi).drop lo = (l ++ (l2.take hi).drop lo).map f := by rw [← List.map_take, ← List.map_drop, ← List.map_append]
 refine a5v (OpS.frz (b5n (T := [(id2, (g2, .row ty2 E.size (l2.map f)))]) htt (h := h) rfl hs hk he hx hy (.inl (e4l hh2)) (by rw [← List.map_take, ← List.map_drop]; exact how) (Nat.le_of_ble_eq_true h2) (Nat.le_of_ble_eq_true h3) (by rw [← List.length_append, hm, List.length_map]; exact h4)) (by rw [hm]; exact Le.ow_map _ (fun _ => rfl) hf)) (InH.cons hh (InH.one hh2)) Sub.one' k
end
section
theorem a5m (r : Int) : a0t Tryz.prog 301 [.pv (.int .i64 r)] (.pv (.bool (decide (0 ≤ r ∧ r ≤ 1)))) := by
 refine pX Tryz.f301 [.pv (.bool (decide (0 ≤ r ∧ r ≤ 1)))] 0 ?_
 refine dv 4 ?_
 refine x0x rfl rfl rfl (z3z r 0 1) (dv 2 ?_)
 exact x3x rfl rfl rfl
theorem d0j (o : Op_) : a0t Tryz.prog 270 [.agg (b4w o)] (.pv (.bool (decide (b3c o)))) := by
 refine pX Tryz.f270 [.pv (.bool (decide (b3c o)))] 1 ?_
 refine dv 1 ?_
 refine x8x (id := 0) rfl rfl rfl (q9q rfl (a5t fun K K' => ?_))
 refine exR (q2q rfl a1p rfl rfl s4s rfl rfl (y9y rfl s4s rfl rfl (b0h ?_)))
 refine w8w (ι := Bool) (fun b γ1 => [(5, .pv (.bool (b)))]) (fun b γ1 => []) (fun b => b = decide (o.do' = 1 ∨ o.do' = 3)) (q3q [1, 4] rfl) (w4w 0 rfl HE.nil) ?_ fun b γ1 hi => ?_
 ·refine exR (b4i rfl rfl rfl (q9q rfl (a1e rfl ?_ ?_)))<;>intro h<;>try simp at h
  ·refine b6w ?_
   repeat clear K' K
   exact ⟨_, (by (simp_all; done)), [], (y0y 5 rfl Cov.nil), (y0y 1 rfl (y0y 4 rfl Cov.nil)), HE.nil, (w4w 0 rfl HE.nil), rfl⟩
  refine b8h p1p (by rfl) (b4i rfl rfl rfl (q9q rfl ?_))
  exact ⟨_, (by (show (_ : Bool) = _; rw [Bool.eq_iff_iff]; simp; omega)), [], (y0y 5 rfl Cov.nil), (y0y 1 rfl (y0y 4 rfl Cov.nil)), HE.nil, (w4w 0 rfl HE.nil), rfl⟩
 ·try dsimp only [a9u, a9v]
  subst hi
  refine dc 0 (aI ?_ ?_)<;>intro h<;>try simp at h
  ·refine dv 3 ?_
   refine x0x rfl rfl rfl (a5m ..) (dc 1 (aS ?_ ?_))<;>intro h<;>try simp at h
   ·refine dv 15 ?_
    refine x3x rfl ?_ rfl
    exact congrArg (fun b : Bool => [AV.pv (.bool b)]) ((decide_eq_false (by simp only [b3c, a3w, b6e]; omega)).symm)
   refine dv 2 ?_
   refine x0x rfl rfl rfl (a5l ..) (dc 2 (aS ?_ ?_))<;>intro h<;>try simp at h
   ·refine dv 10 ?_
    refine x3x rfl ?_ rfl
    exact congrArg (fun b : Bool => [AV.pv (.bool b)]) ((decide_eq_false (by simp only [b3c, a3w, b6e]; omega)).symm)
   refine dc 5 (aS ?_ ?_)<;>intro h<;>try simp at h
   ·refine dv 5 ?_
    refine x3x rfl ?_ rfl
    exact congrArg (fun b : Bool => [AV.pv (.bool b)]) ((decide_eq_false (by simp only [b3c, a3w, b6e]; omega)).symm)
   refine dv 6 ?_
   refine x3x rfl ?_ rfl
   exact congrArg (fun b : Bool => [AV.pv (.bool b)]) (decide_eq_decide.2 (by simp only [b3c, a3w, b6e]; omega))
  refine dc 3 (aI ?_ ?_)<;>intro h<;>try simp at h
  ·refine dv 3 ?_
   refine x0x rfl rfl rfl (a5m ..) (dc 1 (aS ?_ ?_))<;>intro h<;>try simp at h
   ·refine dv 15 ?_
    refine x3x rfl ?_ rfl
    exact congrArg (fun b : Bool => [AV.pv (.bool b)]) ((decide_eq_false (by simp only [b3c, a3w, b6e]; omega)).symm)
   refine dv 2 ?_
   refine x0x rfl rfl rfl (a5m ..) (dc 2 (aS ?_ ?_))<;>intro h<;>try simp at h
   ·refine dv 10 ?_
    refine x3x rfl ?_ rfl
    exact congrArg (fun b : Bool => [AV.pv (.bool b)]) ((decide_eq_false (by simp only [b3c, a3w, b6e]; omega)).symm)
   refine dc 5 (aS ?_ ?_)<;>intro h<;>try simp at h
   ·refine dv 5 ?_
    refine x3x rfl ?_ rfl
    exact congrArg (fun b : Bool => [AV.pv (.bool b)]) ((decide_eq_false (by simp only [b3c, a3w, b6e]; omega)).symm)
   refine q2q rfl a1p rfl rfl s4s rfl rfl (c1u rfl rfl (y9y rfl s4s rfl rfl (c1u rfl rfl (b4i rfl rfl rfl (d6b rfl rfl (q9q rfl (b3m ⟨.inr rfl, ?_⟩)))))))
   refine x3x rfl ?_ rfl
   exact congrArg (fun b : Bool => [AV.pv (.bool b)]) (decide_eq_decide.2 (by simp only [b3c, a3w, b6e]; omega))
  refine w8w (ι := Bool) (fun b γ2 => [(46, .pv (.bool (b)))]) (fun b γ2 => []) (fun b => b = decide (o.do' = 4 ∨ o.do' = 7)) (q3q [1, 4] rfl) (w4w 0 rfl HE.nil) ?_ fun b γ2 hi => ?_
  ·refine exR (b4i rfl rfl rfl (q9q rfl (a1e rfl ?_ ?_)))<;>intro h<;>try simp at h
   ·refine b6w ?_
    repeat clear K' K
    exact ⟨_, (by (simp_all; done)), [], (y0y 46 rfl Cov.nil), (y0y 1 rfl (y0y 4 rfl Cov.nil)), HE.nil, (w4w 0 rfl HE.nil), rfl⟩
   refine b8h p1p (by rfl) (b4i rfl rfl rfl (q9q rfl ?_))
   exact ⟨_, (by (show (_ : Bool) = _; rw [Bool.eq_iff_iff]; simp; omega)), [], (y0y 46 rfl Cov.nil), (y0y 1 rfl (y0y 4 rfl Cov.nil)), HE.nil, (w4w 0 rfl HE.nil), rfl⟩
  ·try dsimp only [a9u, a9v]
   subst hi
   refine dc 0 (aI ?_ ?_)<;>intro h<;>try simp at h
   ·refine dv 3 ?_
    refine x0x rfl rfl rfl (a5m ..) (dc 1 (aS ?_ ?_))<;>intro h<;>try simp at h
    ·refine dv 15 ?_
     refine x3x rfl ?_ rfl
     exact congrArg (fun b : Bool => [AV.pv (.bool b)]) ((decide_eq_false (by simp only [b3c, a3w, b6e]; omega)).symm)
    refine dc 5 (aS ?_ ?_)<;>intro h<;>try simp at h
    ·refine dv 10 ?_
     refine x3x rfl ?_ rfl
     exact congrArg (fun b : Bool => [AV.pv (.bool b)]) ((decide_eq_false (by simp only [b3c, a3w, b6e]; omega)).symm)
    refine dc 5 (aS ?_ ?_)<;>intro h<;>try simp at h
    ·refine dv 5 ?_
     refine x3x rfl ?_ rfl
     exact congrArg (fun b : Bool => [AV.pv (.bool b)]) ((decide_eq_false (by simp only [b3c, a3w, b6e]; omega)).symm)
    refine dv 6 ?_
    refine x3x rfl ?_ rfl
    exact congrArg (fun b : Bool => [AV.pv (.bool b)]) (decide_eq_decide.2 (by simp only [b3c, a3w, b6e]; omega))
   refine dc 3 (aI ?_ ?_)<;>intro h<;>try simp at h
   ·refine dv 3 ?_
    refine x0x rfl rfl rfl (a5m ..) (dc 1 (aS ?_ ?_))<;>intro h<;>try simp at h
    ·refine dv 15 ?_
     refine x3x rfl ?_ rfl
     exact congrArg (fun b : Bool => [AV.pv (.bool b)]) ((decide_eq_false (by simp only [b3c, a3w, b6e]; omega)).symm)
    refine dv 2 ?_
    refine x0x rfl rfl rfl (a5l ..) (dc 2 (aS ?_ ?_))<;>intro h<;>try simp at h
    ·refine dv 10 ?_
     refine x3x rfl ?_ rfl
     exact congrArg (fun b : Bool => [AV.pv (.bool b)]) ((decide_eq_false (by simp only [b3c, a3w, b6e]; omega)).symm)
    refine dv 2 ?_
    refine x0x rfl rfl rfl (z3z ..) (dc 2 (aS ?_ ?_))<;>intro h<;>try simp at h
    ·refine dv 5 ?_
     refine x3x rfl ?_ rfl
     exact congrArg (fun b : Bool => [AV.pv (.bool b)]) ((decide_eq_false (by simp only [b3c, a3w, b6e]; omega)).symm)
    refine dv 6 ?_
    refine x3x rfl ?_ rfl
    exact congrArg (fun b : Bool => [AV.pv (.bool b)]) (decide_eq_decide.2 (by simp only [b3c, a3w, b6e]; omega))
   refine dc 3 (aS ?_ ?_)<;>intro h<;>try simp at h
   ·refine dv 4 ?_
    refine x3x rfl ?_ rfl
    exact congrArg (fun b : Bool => [AV.pv (.bool b)]) ((decide_eq_false (by simp only [b3c, a3w, b6e]; omega)).symm)
   refine dv 3 ?_
   refine x0x rfl rfl rfl (a4e ..) (dc 1 (aS ?_ ?_))<;>intro h<;>try simp at h
   ·refine dv 15 ?_
    refine x3x rfl ?_ rfl
    exact congrArg (fun b : Bool => [AV.pv (.bool b)]) ((decide_eq_false (by simp only [b3c, a3w, b6e]; omega)).symm)
   refine dv 2 ?_
   refine x0x rfl rfl rfl (z3z ..) (dc 2 (aS ?_ ?_))<;>intro h<;>try simp at h
   ·refine dv 10 ?_
    refine x3x rfl ?_ rfl
    exact congrArg (fun b : Bool => [AV.pv (.bool b)]) ((decide_eq_false (by simp only [b3c, a3w, b6e]; omega)).symm)
   refine dv 2 ?_
   refine x0x rfl rfl rfl (z3z ..) (dc 2 (aS ?_ ?_))<;>intro h<;>try simp at h
   ·refine dv 5 ?_
    refine x3x rfl ?_ rfl
    exact congrArg (fun b : Bool => [AV.pv (.bool b)]) ((decide_eq_false (by simp only [b3c, a3w, b6e]; omega)).symm)
   refine dv 2 ?_
   refine x0x rfl rfl rfl (a5m ..) (dv 3 ?_)
   refine x3x rfl ?_ rfl
   exact congrArg (fun b : Bool => [AV.pv (.bool b)]) (decide_eq_decide.2 (by simp only [b3c, a3w, b6e]; omega))
theorem b5e (c : Bool) (r : Ru) (hl : r.ops.length ≤ 1048576) : a0t Tryz.prog 203 [.agg (d0a c r)] (.pv (.bool (kb (d0w r)))) := by
 refine pX Tryz.f203 [.pv (.bool (kb (d0w r)))] 1 ?_
 refine dv 1 ?_
 refine x8x (id := 0) rfl rfl rfl (dv 9 fun K K' => ?_)
 refine x5x (ι := Nat) (fun i γ1 => [(3, pI (c7y (r.ops.take i) : Int)), (4, pI (d9k (r.ops.take i) : Int)), (5, pI (i : Int))]) (fun i γ1 => []) (fun i => i ≤ r.ops.length ∧ ∀ (j : Nat) o, j < i → r.ops[j]? = some o → b3c o) (fun i => r.ops.length - i) (y0y 1 rfl Cov.nil) (w4w 0 rfl HE.nil) 0 ⟨by omega, fun j o hj => by omega⟩ [] (Cov.cons' (t := 3) rfl (by rfl) (Cov.cons' (t := 4) rfl (by rfl) (y0y 5 rfl Cov.nil))) x4x rfl fun i γ1 hi => ?_
 obtain ⟨k1, k2⟩ := hi
 refine dc 7 (fun K K' => aS ?_ ?_)<;>intro h<;>try simp at h
 ·obtain rfl : i = r.ops.length := by omega
  rw [List.take_length]
  have hall : ∀ o ∈ r.ops, b3c o := fun o ho => by obtain ⟨j, hj⟩ := List.getElem?_of_mem ho; exact k2 j o (List.getElem?_eq_some_iff.1 hj).1 hj
  refine dc 7 (aS ?_ ?_)<;>intro h<;>try simp at h
  ·refine dv 8 ?_
   refine x3x rfl ?_ rfl
   exact congrArg (fun b : Bool => [AV.pv (.bool b)]) (a5o fun q => by have := q.2; omega)
  refine dc 4 (aS ?_ ?_)<;>intro h<;>try simp at h
  ·refine dv 4 ?_
   refine x3x rfl ?_ rfl
   exact congrArg (fun b : Bool => [AV.pv (.bool b)]) (a5o fun q => by have := q.2; omega)
  refine dv 5 ?_
  refine x3x rfl ?_ rfl
  exact congrArg (fun b : Bool => [AV.pv (.bool b)]) (f1s (by rw [decide_eq_true_iff]; exact ⟨fun q => ⟨hall, by omega, by omega, by omega⟩, fun q => by have := q.2; omega⟩))
 obtain ⟨o, ho⟩ := gE r.ops i
 have hs6 := d4w r.ops i
 have hs7 := d9l r.ops i
 refine dv 10 fun K K' K K' => ?_
 refine x0x rfl rfl rfl (d0j ..) (dc 1 (aI ?_ ?_))<;>intro hc6<;>try simp at hc6
 ·have fX : ¬ d0w r := fun q => by have := q.1 o (List.mem_of_getElem? ho); simp_all
  refine dv 3 ?_
  refine x3x rfl ?_ rfl
  exact congrArg (fun b : Bool => [AV.pv (.bool b)]) (a5o fX)
 have hoo : b3c o := by simpa using hc6
 refine dc 10 (fun K K' => aS ?_ ?_)<;>intro hc8<;>try simp at hc8
 ·have h6 : ¬ o.do' = 6 := hc8
  refine dc 9 (aS ?_ ?_)<;>intro hc10<;>try simp at hc10
  ·have h7 : ¬ o.do' = 7 := hc10
   refine dv 3 ?_
   refine x7x (b := 1) rfl rfl (by omega) (dv 1 ?_)
   exact ⟨i + 1, ⟨⟨by omega, fun j q hj hq => by by_cases e : j = i; (subst e; rw [ho] at hq; cases hq; exact hoo); exact k2 j q (by omega) hq⟩, by omega⟩, [], (Cov.cons' (t := 3) rfl (by rw [z8z ho, b3d]; (rw [if_neg h6]; rfl)) (Cov.cons' (t := 4) rfl (by rw [z8z ho, b5s]; (rw [if_neg h7]; rfl)) (y0y 5 rfl Cov.nil))), x6x, x4x, x4x, rfl⟩
  have h7 : o.do' = 7 := hc10
  refine dv 2 ?_
  refine x7x (b := 1) rfl rfl (by omega) (dv 3 ?_)
  refine x7x (b := 1) rfl rfl (by omega) (dv 1 ?_)
  exact ⟨i + 1, ⟨⟨by omega, fun j q hj hq => by by_cases e : j = i; (subst e; rw [ho] at hq; cases hq; exact hoo); exact k2 j q (by omega) hq⟩, by omega⟩, [], (Cov.cons' (t := 3) rfl (by rw [z8z ho, b3d]; (rw [if_neg h6]; rfl)) (Cov.cons' (t := 4) rfl (by rw [z8z ho, b5s]; (rw [if_pos h7]; done)) (y0y 5 rfl Cov.nil))), x6x, x4x, x4x, rfl⟩
 have h6 : o.do' = 6 := hc8
 refine dv 2 ?_
 refine x7x (b := 1) rfl rfl (by omega) (dc 9 (aS ?_ ?_))<;>intro hc9<;>try simp at hc9
 ·have h7 : ¬ o.do' = 7 := hc9
  refine dv 3 ?_
  refine x7x (b := 1) rfl rfl (by omega) (dv 1 ?_)
  exact ⟨i + 1, ⟨⟨by omega, fun j q hj hq => by by_cases e : j = i; (subst e; rw [ho] at hq; cases hq; exact hoo); exact k2 j q (by omega) hq⟩, by omega⟩, [], (Cov.cons' (t := 3) rfl (by rw [z8z ho, b3d]; (rw [if_pos h6]; done)) (Cov.cons' (t := 4) rfl (by rw [z8z ho, b5s]; (rw [if_neg h7]; rfl)) (y0y 5 rfl Cov.nil))), x6x, x4x, x4x, rfl⟩
 have h7 : o.do' = 7 := hc9
 refine dv 2 ?_
 refine x7x (b := 1) rfl rfl (by omega) (dv 3 ?_)
 refine x7x (b := 1) rfl rfl (by omega) (dv 1 ?_)
 exact ⟨i + 1, ⟨⟨by omega, fun j q hj hq => by by_cases e : j = i; (subst e; rw [ho] at hq; cases hq; exact hoo); exact k2 j q (by omega) hq⟩, by omega⟩, [], (Cov.cons' (t := 3) rfl (by rw [z8z ho, b3d]; (rw [if_pos h6]; done)) (Cov.cons' (t := 4) rfl (by rw [z8z ho, b5s]; (rw [if_pos h7]; done)) (y0y 5 rfl Cov.nil))), x6x, x4x, x4x, rfl⟩
theorem b0m (c : Bool) (l : List Ap) (hb : ∀ a ∈ l, ∀ r ∈ a.rules, r.ops.length ≤ 1048576) : a0t Tryz.prog 87 [a5p c l] (.pv (.bool (kb (a7w l)))) := by
 refine pX Tryz.f87 [.pv (.bool (kb (a7w l)))] 0 ?_
 refine dc 7 (fun K K' => aI ?_ ?_)<;>intro h<;>try simp at h
 ·have fX : ¬ a7w l := fun q => by have := q.1; omega
  refine dv 3 ?_
  refine x3x rfl ?_ rfl
  exact congrArg (fun b : Bool => [AV.pv (.bool b)]) (a5o fX)
 have h4 : l.length = 4 := by omega
 refine dv 5 fun K K' => ?_
 refine x5x (ι := Nat) (fun i γ1 => [(3, pI (i : Int))]) (fun i γ1 => []) (fun i => i ≤ l.length ∧ ∀ (j : Nat) a, j < i → l[j]? = some a → e4o a) (fun i => l.length - i) (y0y 0 rfl Cov.nil) HE.nil 0 ⟨by omega, fun j a hj => by omega⟩ [] x6x x4x rfl fun i γ1 hi => ?_
 obtain ⟨k1, k2⟩ := hi
 refine dc 6 (fun K K' => aS ?_ ?_)<;>intro h<;>try simp at h
 ·obtain rfl : i = l.length := by omega
  have hT : a7w l := ⟨h4, fun a ha => by obtain ⟨j, hj⟩ := List.getElem?_of_mem ha; exact k2 j a (List.getElem?_eq_some_iff.1 hj).1 hj⟩
  refine dv 4 ?_
  refine x3x rfl ?_ rfl
  exact congrArg (fun b : Bool => [AV.pv (.bool b)]) (e2x hT)
 obtain ⟨a, ha⟩ := gE l i
 refine dc 15 (fun K K' K K' => aI ?_ ?_)<;>intro h<;>try simp at h
 ·have fX : ¬ a7w l := fun q => by have := (q.2 a (List.mem_of_getElem? ha)).1; omega
  refine dv 3 ?_
  refine x3x rfl ?_ rfl
  exact congrArg (fun b : Bool => [AV.pv (.bool b)]) (a5o fX)
 have h5 : a.rules.length ≤ 4 := by omega
 refine dv 4 ?_
 refine x5x (ι := Nat) (fun k γ2 => [(5, pI (k : Int))]) (fun k γ2 => []) (fun k => k ≤ a.rules.length ∧ d0v a.rules (fun j r => (0 ≤ r.kind ∧ r.kind ≤ 3) ∧ d0w r ∧ ∀ p, 0 < j → a.rules[j - 1]? = some p → p.kind < r.kind) k) (fun k => a.rules.length - k) (q3q [0, 3, 4] rfl) HE.nil 0 ⟨by omega, a1u⟩ [] x6x x4x rfl fun k γ2 hi => ?_
 obtain ⟨k3, k4⟩ := hi
 refine dc 6 (fun K K' => aS ?_ ?_)<;>intro h<;>try simp at h
 ·obtain rfl : k = a.rules.length := by omega
  have hap : e4o a := ⟨h5, fun j r hj => a3t k4 (Nat.le_refl _) j r hj⟩
  refine dv 3 ?_
  refine x7x (b := 1) rfl rfl (by omega) (dv 1 ?_)
  exact ⟨i + 1, ⟨⟨by omega, fun j q hj hq => by by_cases e : j = i; (subst e; rw [ha] at hq; cases hq; exact hap); exact k2 j q (by omega) hq⟩, by omega⟩, [], x6x, x6x, x4x, x4x, rfl⟩
 obtain ⟨r, hr⟩ := gE a.rules k
 refine dv 9 fun K K' => ?_
 refine x0x rfl rfl rfl (z3z ..) (dc 2 (aS ?_ ?_))<;>intro h<;>try simp at h
 ·have fR : ¬ ((0 ≤ r.kind ∧ r.kind ≤ 3) ∧ d0w r ∧ ∀ p, 0 < k → a.rules[k - 1]? = some p → p.kind < r.kind) := by (rintro ⟨q1, q2, q3⟩; omega)
  refine dv 25 ?_
  have fX : ¬ a7w l := fun q => fR ((q.2 a (List.mem_of_getElem? ha)).2 k r hr)
  refine dv 3 ?_
  refine x3x rfl ?_ rfl
  exact congrArg (fun b : Bool => [AV.pv (.bool b)]) (a5o fX)
 refine dv 4 ?_
 refine x0x rfl rfl rfl (b5e c r (hb a (List.mem_of_getElem? ha) r (List.mem_of_getElem? hr))) ?_
 refine dc 3 (aS ?_ ?_)<;>intro hg13<;>try simp at hg13
 ·have hnr : ¬ d0w r := a1f (by simpa using hg13)
  have fR : ¬ ((0 ≤ r.kind ∧ r.kind ≤ 3) ∧ d0w r ∧ ∀ p, 0 < k → a.rules[k - 1]? = some p → p.kind < r.kind) := by (rintro ⟨q1, q2, q3⟩; exact absurd q2 hnr)
  refine dv 17 ?_
  have fX : ¬ a7w l := fun q => fR ((q.2 a (List.mem_of_getElem? ha)).2 k r hr)
  refine dv 3 ?_
  refine x3x rfl ?_ rfl
  exact congrArg (fun b : Bool => [AV.pv (.bool b)]) (a5o fX)
 have hru : d0w r := a1c.1 (by simpa using hg13)
 refine dc 3 (aS ?_ ?_)<;>intro h<;>try simp at h
 ·have hR : ((0 ≤ r.kind ∧ r.kind ≤ 3) ∧ d0w r ∧ ∀ p, 0 < k → a.rules[k - 1]? = some p → p.kind < r.kind) := ⟨by omega, hru, fun p h0 => by omega⟩
  refine dv 17 ?_
  refine x7x (b := 1) rfl rfl (by omega) (dv 1 ?_)
  exact ⟨k + 1, ⟨⟨by omega, a0i k4 hr hR⟩, by omega⟩, [], x6x, x6x, x4x, x4x, rfl⟩
 have k0 : 0 < k := by omega
 obtain ⟨p, hp⟩ := gE a.rules (k - 1)
 refine dv 2 ?_
 refine w6w (b := 1) rfl rfl (by omega) (by omega) (dc 11 (aS ?_ ?_))<;>intro h<;>try simp at h
 ·have hR : ((0 ≤ r.kind ∧ r.kind ≤ 3) ∧ d0w r ∧ ∀ p, 0 < k → a.rules[k - 1]? = some p → p.kind < r.kind) := by exact ⟨by omega, hru, fun p2 h0 hp2 => by rw [hp] at hp2; cases hp2; omega⟩
  refine dv 3 ?_
  refine x7x (b := 1) rfl rfl (by omega) (dv 1 ?_)
  exact ⟨k + 1, ⟨⟨by omega, a0i k4 hr hR⟩, by omega⟩, [], x6x, x6x, x4x, x4x, rfl⟩
 have fR : ¬ ((0 ≤ r.kind ∧ r.kind ≤ 3) ∧ d0w r ∧ ∀ p, 0 < k → a.rules[k - 1]? = some p → p.kind < r.kind) := by (rintro ⟨q1, q2, q3⟩; (have := q3 p (by omega) hp; omega))
 have fX : ¬ a7w l := fun q => fR ((q.2 a (List.mem_of_getElem? ha)).2 k r hr)
 refine dv 3 ?_
 refine x3x rfl ?_ rfl
 exact congrArg (fun b : Bool => [AV.pv (.bool b)]) (a5o fX)
end
section
theorem a1r (S : Rn) (e : Ev) (r : Int) : Meth Tryz.prog 338 3 [0, 1, 2] [.ptr 0 0 0, .pv (.int .i64 r)] [(0, (0, .box 362 [pI S.s.x, pI S.s.y, pI S.s.count, pI e.time, pI e.to, pI e.from', pI e.count, pI e.n, pI e.kind, pI e.arg, .ref 1 0, .ref 2 0])), (1, (0, .row 56 7 ((S.sends).map y8y))), (2, (0, .row 141 5 ((S.outs).map w3w)))] (.pv (.int .i64 (if r = 0 then S.s.x else S.s.y))) [] := by
 refine mX Tryz.f338 [.pv (.int .i64 (if r = 0 then S.s.x else S.s.y))] 3 0 fun γ => ?_
 refine dc 6 (fun K K' => aI ?_ ?_)<;>intro hc2<;>try simp at hc2
 ·have k : r = 0 := hc2
  refine dv 8 ?_
  exact ⟨[γ 0, γ 1, γ 2], rfl, congrArg (fun v : Int => some [AV.pv (.int .i64 v)]) (if_pos k).symm, x4x⟩
 have k : ¬ r = 0 := hc2
 refine dv 9 ?_
 exact ⟨[γ 0, γ 1, γ 2], rfl, congrArg (fun v : Int => some [AV.pv (.int .i64 v)]) (if_neg k).symm, x4x⟩
theorem a5b (S : Rn) (e : Ev) (r n : Int) : Meth Tryz.prog 337 3 [0, 1, 2] [.ptr 0 0 0, .pv (.int .i64 r), .pv (.int .i64 n)] [(0, (0, .box 362 [pI S.s.x, pI S.s.y, pI S.s.count, pI e.time, pI e.to, pI e.from', pI e.count, pI e.n, pI e.kind, pI e.arg, .ref 1 0, .ref 2 0])), (1, (0, .row 56 7 ((S.sends).map y8y))), (2, (0, .row 141 5 ((S.outs).map w3w)))] (.tup []) [(0, (0, .box 362 [pI (f6g S.s r n).x, pI (f6g S.s r n).y, pI (f6g S.s r n).count, pI e.time, pI e.to, pI e.from', pI e.count, pI e.n, pI e.kind, pI e.arg, .ref 1 0, .ref 2 0]))] := by
 refine mX Tryz.f337 [] 3 0 fun γ => ?_
 refine dc 3 (aI ?_ ?_)<;>intro hc1<;>try simp at hc1
 ·have k : r = 0 := hc1
  refine dv 3 ?_
  refine u1u rfl rfl rfl (dv 4 ?_)
  exact ⟨[γ 0, γ 1, γ 2], rfl, rfl, HE.box rfl (by unfold f6g; rw [if_pos k]; rfl) (HE.same rfl (HE.same rfl HE.nil))⟩
 have k : ¬ r = 0 := hc1
 refine dv 3 ?_
 refine u1u rfl rfl rfl (dv 4 ?_)
 exact ⟨[γ 0, γ 1, γ 2], rfl, rfl, HE.box rfl (by unfold f6g; rw [if_neg k]; rfl) (HE.same rfl (HE.same rfl HE.nil))⟩
theorem c5b (S : Rn) (e : Ev) (o : Op_) (ho : b3c o) (hs : S.sends.length ≤ 1000) (hu : S.outs.length ≤ 1000) : MethE Tryz.prog 336 3 [.ptr 0 0 0, .agg (b4w o)] [(0, (0, .box 362 [pI S.s.x, pI S.s.y, pI S.s.count, pI e.time, pI e.to, pI e.from', pI e.count, pI e.n, pI e.kind, pI e.arg, .ref 1 0, .ref 2 0])), (1, (0, .row 56 7 ((S.sends).map y8y))), (2, (0, .row 141 5 ((S.outs).map w3w)))] (ι := Rn × Int) (fun S' => S'.1.sends.length ≤ S.sends.length + 1 ∧ S'.1.outs.length ≤ S.outs.length + 1 ∧ (∀ q ∈ S'.1.outs, q ∈ S.outs ∨ q.time = e.time) ∧ 0 ≤ S'.2 ∧ S'.2 ≤ 8) (fun S' => [0]) (fun S' => .pv (.int .i64 S'.2)) (fun S' => [(0, (0, .box 362 [pI S'.1.s.x, pI S'.1.s.y, pI S'.1.s.count, pI e.time, pI e.to, pI e.from', pI e.count, pI e.n, pI e.kind, pI e.arg, .ref 1 0, .ref 2 0])), (1, (0, .row 56 7 ((S'.1.sends).map y8y))), (2, (0, .row 141 5 ((S'.1.outs).map w3w)))]) := by
 refine b6z p1p (fn := Tryz.f336) (by kernel_rfl) (by kernel_rfl) rfl (ι := Rn × Int) (OF := fun S' => [.pv (.int .i64 S'.2)]) 3 5 (a0g rfl) (by rfl) (fun _ _ => by rfl) (by repeat (first | exact BndH.nil | refine BndH.box rfl ?_ | refine BndH.row (v6v fun _ => rfl) ?_)) (fun _ _ => (by repeat (first | exact BndH.nil | refine BndH.box rfl ?_ | refine BndH.row (v6v fun _ => rfl) ?_))) (fun _ _ => by rfl) fun γ => ?_
 show Ex Tryz.prog _ _ [(0, .ptr 0 (γ 0) 0), (1, .agg (b4w o))] [(0, ((γ 0), .box 362 [pI S.s.x, pI S.s.y, pI S.s.count, pI e.time, pI e.to, pI e.from', pI e.count, pI e.n, pI e.kind, pI e.arg, .ref 1 (γ 1), .ref 2 (γ 2)])), (1, ((γ 1), .row 56 7 ((S.sends).map y8y))), (2, ((γ 2), .row 141 5 ((S.outs).map w3w))), (7, (0, .dead)), (6, (0, .dead)), (5, (0, .dead)), (4, (0, .dead)), (3, (0, .dead))] _
 refine dv 1 ?_
 refine x8x (id := 3) rfl rfl rfl (q9q rfl (a5t fun K K' => ?_))
 refine exR (q2q rfl a1p rfl rfl s4s rfl rfl (y9y rfl s4s rfl rfl (b0h (exR (b4i rfl rfl rfl (q9q rfl (a1e rfl ?_ ?_)))))))<;>intro u<;>try simp at u
 ·refine exG (q0q rfl (q2q rfl a1p rfl rfl s4s rfl rfl (y9y rfl s4s rfl rfl (q2q rfl a1p rfl rfl s4s rfl rfl (y9y rfl s4s rfl rfl ?_)))))
  refine rlM [0, 1, 2] [_, _, _] (a5b S e (o.a) (o.b)) rfl rfl rfl ?_
  refine hkL (by assumption) ?_
  refine exR (q9q rfl (b3m ?_))
  exact ⟨.inr rfl, (⟨⟨_, _, _⟩, S.sends, S.outs⟩, 0), ⟨by exact Nat.le_succ _, by exact Nat.le_succ _, by exact (fun q h => .inl h), by show (0 : Int) ≤ 0; omega, by show (0 : Int) ≤ 8; omega⟩, [γ 0, _, _], rfl, rfl, HE.box rfl rfl (HE.row rfl rfl (HE.row rfl rfl HE.nil))⟩
 refine dc 3 (aI ?_ ?_)<;>intro u<;>try simp at u
 ·refine exH (q0q rfl (q2q rfl a1p rfl rfl s4s rfl rfl (y9y rfl s4s rfl rfl (q0q rfl (q2q rfl a1p rfl rfl s4s rfl rfl (y9y rfl s4s rfl rfl ?_))))))
  refine rlM [0, 1, 2] [_, _, _] (a1r S e (o.a)) rfl rfl rfl ?_
  refine q0q rfl (q2q rfl a1p rfl rfl s4s rfl rfl (y9y rfl s4s rfl rfl ?_))
  refine rlM [0, 1, 2] [_, _, _] (a1r S e (o.b)) rfl rfl rfl ?_
  refine u1u rfl rfl rfl ?_
  refine rlM [0, 1, 2] [_, _, _] (a5b S e (o.a) (IntKind.i64.wrap ((if o.a = 0 then S.s.x else S.s.y) + (if o.b = 0 then S.s.x else S.s.y)))) rfl rfl rfl ?_
  refine ⟨by kernel_rfl, hkL (by assumption) ?_⟩
  refine exR (q9q rfl (b3m ?_))
  exact ⟨.inr rfl, (⟨⟨_, _, _⟩, S.sends, S.outs⟩, 0), ⟨by exact Nat.le_succ _, by exact Nat.le_succ _, by exact (fun q h => .inl h), by show (0 : Int) ≤ 0; omega, by show (0 : Int) ≤ 8; omega⟩, [γ 0, _, _], rfl, rfl, HE.box rfl rfl (HE.row rfl rfl (HE.row rfl rfl HE.nil))⟩
 refine exR (b4i rfl rfl rfl (q9q rfl (a1e rfl ?_ ?_)))<;>intro u<;>try simp at u
 ·refine exH (q0q rfl (q2q rfl a1p rfl rfl s4s rfl rfl (y9y rfl s4s rfl rfl (q0q rfl (q2q rfl a1p rfl rfl s4s rfl rfl (y9y rfl s4s rfl rfl ?_))))))
  refine rlM [0, 1, 2] [_, _, _] (a1r S e (o.a)) rfl rfl rfl ?_
  refine q2q rfl a1p rfl rfl s4s rfl rfl (y9y rfl s4s rfl rfl (u1u rfl rfl rfl ?_))
  refine rlM [0, 1, 2] [_, _, _] (a5b S e (o.a) (IntKind.i64.wrap ((if o.a = 0 then S.s.x else S.s.y) + o.b))) rfl rfl rfl ?_
  refine ⟨by kernel_rfl, hkL (by assumption) ?_⟩
  refine exR (q9q rfl (b3m ?_))
  exact ⟨.inr rfl, (⟨⟨_, _, _⟩, S.sends, S.outs⟩, 0), ⟨by exact Nat.le_succ _, by exact Nat.le_succ _, by exact (fun q h => .inl h), by show (0 : Int) ≤ 0; omega, by show (0 : Int) ≤ 8; omega⟩, [γ 0, _, _], rfl, rfl, HE.box rfl rfl (HE.row rfl rfl (HE.row rfl rfl HE.nil))⟩
 refine dc 3 (aI ?_ ?_)<;>intro u<;>try simp at u
 ·refine exH (q0q rfl (q2q rfl a1p rfl rfl s4s rfl rfl (y9y rfl s4s rfl rfl (q0q rfl (e0x rfl rfl (q2q rfl e9h rfl rfl z2z rfl rfl (q2q rfl z2z rfl rfl s4s rfl rfl (y9y rfl s4s rfl rfl ?_))))))))
  refine rlM [0, 1, 2] [_, _, _] (a5b S e (o.a) (e.arg)) rfl rfl rfl ?_
  refine ⟨by kernel_rfl, hkL (by assumption) ?_⟩
  refine exR (q9q rfl (b3m ?_))
  exact ⟨.inr rfl, (⟨⟨_, _, _⟩, S.sends, S.outs⟩, 0), ⟨by exact Nat.le_succ _, by exact Nat.le_succ _, by exact (fun q h => .inl h), by show (0 : Int) ≤ 0; omega, by show (0 : Int) ≤ 8; omega⟩, [γ 0, _, _], rfl, rfl, HE.box rfl rfl (HE.row rfl rfl (HE.row rfl rfl HE.nil))⟩
 refine dc 3 (aI ?_ ?_)<;>intro hc6<;>try simp at hc6
 ·have k5 : o.do' = 5 := hc6
  have hoc : 1 ≤ o.c ∧ o.c ≤ 8 := by unfold b3c at ho; omega
  refine dv 4 ?_
  refine rlM [0, 1, 2] [_, _, _] (a1r S e (o.a)) rfl rfl rfl ?_
  refine dc 3 (aI ?_ ?_)<;>intro u<;>try simp at u
  ·refine dv 5 ?_
   exact ⟨(⟨⟨_, _, _⟩, S.sends, S.outs⟩, o.c), ⟨by exact Nat.le_succ _, by exact Nat.le_succ _, by exact (fun q h => .inl h), by show (0 : Int) ≤ o.c; omega, by show (o.c : Int) ≤ 8; omega⟩, [γ 0, _, _], rfl, rfl, x4x⟩
  refine dv 4 ?_
  exact ⟨(⟨⟨_, _, _⟩, S.sends, S.outs⟩, 0), ⟨by exact Nat.le_succ _, by exact Nat.le_succ _, by exact (fun q h => .inl h), by show (0 : Int) ≤ 0; omega, by show (0 : Int) ≤ 8; omega⟩, [γ 0, _, _], rfl, rfl, x4x⟩
 refine dc 3 (aS ?_ ?_)<;>intro u<;>try simp at u
 ·refine dc 3 (aS ?_ ?_)<;>intro u<;>try simp at u
  ·refine dv 4 ?_
   exact ⟨(⟨⟨_, _, _⟩, S.sends, S.outs⟩, 0), ⟨by exact Nat.le_succ _, by exact Nat.le_succ _, by exact (fun q h => .inl h), by show (0 : Int) ≤ 0; omega, by show (0 : Int) ≤ 8; omega⟩, [γ 0, _, _], rfl, rfl, x4x⟩
  refine dv 25 ?_
  refine a3y (n := S.outs.length) rfl p5p rfl rfl (List.length_map _) ?_
  refine dv 3 ?_
  refine rlM [0, 1, 2] [_, _, _] (a1r S e (o.a)) rfl rfl rfl ?_
  refine rlB z9z b8m ?_
  refine y2y (id := 6) p5p rfl z9z rfl rfl rfl rfl rfl rfl ?_
  refine y7y (zs := (S.outs ++ [(Ou.mk e.time e.to S.s.count (S.outs.length : Int) (if o.a = 0 then S.s.x else S.s.y))]).map w3w) rfl rfl p5p rfl z9z rfl rfl rfl rfl (by rfl) (z7z w3w S.outs (Ou.mk e.time e.to S.s.count (S.outs.length : Int) (if o.a = 0 then S.s.x else S.s.y))) (by (simp only [s3s, r0r, r5r, r8r, a0p, a2m, T141]; omega)) ?_
  refine dv 6 ?_
  exact ⟨(⟨⟨_, _, _⟩, S.sends, S.outs ++ [(Ou.mk e.time e.to S.s.count (S.outs.length : Int) (if o.a = 0 then S.s.x else S.s.y))]⟩, 0), ⟨by exact Nat.le_succ _, by simp, by exact (fun q h => by rcases List.mem_append.1 h with h | h; exact .inl h; exact .inr (by rw [List.mem_singleton.1 h])), by show (0 : Int) ≤ 0; omega, by show (0 : Int) ≤ 8; omega⟩, [γ 0, _, _], rfl, rfl, x4x⟩
 refine dv 8 ?_
 refine u1u rfl rfl rfl (dc 1 (aS ?_ ?_))<;>intro u<;>try simp at u
 ·refine dv 4 ?_
  exact ⟨(⟨⟨_, _, _⟩, S.sends, S.outs⟩, 0), ⟨by exact Nat.le_succ _, by exact Nat.le_succ _, by exact (fun q h => .inl h), by show (0 : Int) ≤ 0; omega, by show (0 : Int) ≤ 8; omega⟩, [γ 0, _, _], rfl, rfl, x4x⟩
 refine dv 13 ?_
 refine u1u rfl rfl rfl (dv 16 ?_)
 refine a3y (n := S.sends.length) rfl u4u rfl rfl (List.length_map _) ?_
 refine dv 5 ?_
 refine rlM [0, 1, 2] [_, _, _] (a1r S e (o.d)) rfl rfl rfl ?_
 refine rlB z2z a6n ?_
 refine y2y (id := 4) u4u rfl z2z rfl rfl rfl rfl rfl rfl ?_
 refine y7y (zs := (S.sends ++ [(Ev.mk (IntKind.i64.wrap (e.time + o.c)) o.a e.to S.s.count (S.sends.length : Int) o.b (if o.d = 0 then S.s.x else S.s.y))]).map y8y) rfl rfl u4u rfl z2z rfl rfl rfl rfl (by rfl) (z7z y8y S.sends (Ev.mk (IntKind.i64.wrap (e.time + o.c)) o.a e.to S.s.count (S.sends.length : Int) o.b (if o.d = 0 then S.s.x else S.s.y))) (by (simp only [s3s, r0r, r5r, r8r, a0p, a2m, T56]; omega)) ?_
 refine dv 6 ?_
 exact ⟨(⟨⟨_, _, _⟩, S.sends ++ [(Ev.mk (IntKind.i64.wrap (e.time + o.c)) o.a e.to S.s.count (S.sends.length : Int) o.b (if o.d = 0 then S.s.x else S.s.y))], S.outs⟩, 0), ⟨by simp, by exact Nat.le_succ _, by exact (fun q h => .inl h), by show (0 : Int) ≤ 0; omega, by show (0 : Int) ≤ 8; omega⟩, [γ 0, _, _], rfl, rfl, x4x⟩
theorem d0k (a : Ap) (s : St) (e : Ev) (hb : ∀ r ∈ a.rules, r.ops.length ≤ 1048576) : MethE Tryz.prog 335 0 [.agg (b9g true a), .agg (q8q s), .agg (y8y e)] [] (ι := Rn) (fun S' => S'.sends.length ≤ 32 ∧ S'.outs.length ≤ 32 ∧ ∀ q ∈ S'.outs, q.time = e.time) (fun S' => []) (fun S' => .tup [.agg (q8q S'.s), s1s true S'.sends, q7q true S'.outs]) (fun S' => []) := by
 refine mE (ι := Rn) Tryz.f335 (fun S' => [.agg (q8q S'.s), s1s true S'.sends, q7q true S'.outs]) 0 12 fun γ => ?_
 refine dv 1 ?_
 refine x8x (id := 0) rfl rfl rfl (x8x (id := 1) rfl rfl rfl (x8x (id := 2) rfl rfl rfl (x2x (id := 3) a2x c6f rfl (dv 5 fun K K' => ?_))))
 refine rlB a5u b6a ?_
 refine rlB a5u b6a ?_
 refine rlB a5u b6a ?_
 refine a0b (id := 4) c8l rfl a5u rfl rfl rfl rfl (.val rfl rfl (.val rfl rfl (.val rfl rfl (.val rfl rfl .nil)))) rfl (a0g rfl) (a0g rfl) (a0g rfl) rfl rfl ?_
 refine b2m rfl rfl rfl (.ref rfl (e5n a) .nil) (b0m false (f3v a) (by intro x hx; simp only [f3v, List.mem_cons, List.not_mem_nil, or_false] at hx; rcases hx with rfl | rfl | rfl | rfl <;> first | exact hb | (intro r hr; cases hr))) (.pv _) ?_
 refine dc 2 (aS ?_ ?_)<;>intro hg2<;>try simp at hg2
 ·refine dv 10 ?_
  refine rlB a2x c6f ?_
  refine y1y (id := 5) u4u rfl z2z rfl (y1y (id := 6) p5p rfl z9z rfl (dv 3 ?_))
  refine w5w (f := y8y) (l := []) 7 rfl rfl (fun _ => rfl) ?_
  refine w5w (f := w3w) (l := []) 8 rfl rfl (fun _ => rfl) ?_
  refine dv 1 ?_
  exact ⟨⟨⟨0, 0, 0⟩, [], []⟩, ⟨Nat.zero_le _, Nat.zero_le _, fun q h => by cases h⟩, [], rfl, rfl, x4x⟩
 have fA : e4o a := f3m (a1c.1 (by simpa using hg2))
 refine dv 1 ?_
 refine x0x rfl rfl rfl (a8f ..) (dc 3 (aS ?_ ?_))<;>intro u<;>try simp at u
 ·refine dv 5 ?_
  refine rlB a2x c6f ?_
  refine y1y (id := 5) u4u rfl z2z rfl (y1y (id := 6) p5p rfl z9z rfl (dv 3 ?_))
  refine w5w (f := y8y) (l := []) 7 rfl rfl (fun _ => rfl) ?_
  refine w5w (f := w3w) (l := []) 8 rfl rfl (fun _ => rfl) ?_
  refine dv 1 ?_
  exact ⟨⟨⟨0, 0, 0⟩, [], []⟩, ⟨Nat.zero_le _, Nat.zero_le _, fun q h => by cases h⟩, [], rfl, rfl, x4x⟩
 refine dv 1 ?_
 refine x0x rfl rfl rfl (a8g ..) (dc 2 (aI ?_ ?_))<;>intro u<;>try simp at u
 ·refine dv 1 ?_
  refine rlB a2x c6f ?_
  refine y1y (id := 5) u4u rfl z2z rfl (y1y (id := 6) p5p rfl z9z rfl (dv 3 ?_))
  refine w5w (f := y8y) (l := []) 7 rfl rfl (fun _ => rfl) ?_
  refine w5w (f := w3w) (l := []) 8 rfl rfl (fun _ => rfl) ?_
  refine dv 1 ?_
  exact ⟨⟨⟨0, 0, 0⟩, [], []⟩, ⟨Nat.zero_le _, Nat.zero_le _, fun q h => by cases h⟩, [], rfl, rfl, x4x⟩
 refine dc 6 (fun K K' => aI ?_ ?_)<;>intro u<;>try simp at u
 ·refine dv 2 ?_
  refine y1y (id := 7) u4u rfl z2z rfl (y1y (id := 8) p5p rfl z9z rfl (dv 3 ?_))
  refine w5w (f := y8y) (l := []) 7 rfl rfl (fun _ => rfl) ?_
  refine w5w (f := w3w) (l := []) 8 rfl rfl (fun _ => rfl) ?_
  refine dv 1 ?_
  exact ⟨⟨s, [], []⟩, ⟨Nat.zero_le _, Nat.zero_le _, fun q h => by cases h⟩, [], rfl, rfl, x4x⟩
 refine dv 4 ?_
 refine y1y (id := 9) u4u rfl z2z rfl (y1y (id := 10) p5p rfl z9z rfl (rlB e9h f4p ?_))
 refine x8x (id := 11) rfl rfl rfl (dv 5 fun K K' => ?_)
 refine x5x (ι := Rn × Nat) (fun p γ1 => [(10, pI (p.2 : Int))]) (fun p γ1 => [(9, ((γ1 9), .row 56 7 ((p.1.sends).map y8y))), (10, ((γ1 10), .row 141 5 ((p.1.outs).map w3w))), (11, ((0 + 1), .box 362 [pI p.1.s.x, pI p.1.s.y, pI p.1.s.count, pI e.time, pI e.to, pI e.from', pI e.count, pI e.n, pI e.kind, pI e.arg, .ref 9 (γ1 9), .ref 10 (γ1 10)]))]) (fun p => p.2 ≤ a.rules.length ∧ p.1.sends.length ≤ 8 * p.2 ∧ p.1.outs.length ≤ 8 * p.2 ∧ ∀ q ∈ p.1.outs, q.time = e.time) (fun p => a.rules.length - p.2) (q3q [3, 5, 6, 9] rfl) (a0j [0, 1, 2, 3, 4, 5, 6, 7, 8] rfl) (⟨s, [], []⟩, 0) ⟨Nat.zero_le _, Nat.zero_le _, Nat.zero_le _, fun q h => by cases h⟩ [0, 0, 0, 0, 0, 0, 0, 0, 0, _, _] x6x (HE.row rfl (by rfl) (HE.row rfl (by rfl) (HE.box rfl (by rfl) HE.nil))) rfl fun p γ1 hi => ?_
 obtain ⟨S, i⟩ := p
 obtain ⟨h1, h2, h3, h4⟩ := hi
 dsimp only at h1 h2 h3 h4 ⊢
 refine dc 7 (fun K K' => aS ?_ ?_)<;>intro u<;>try simp at u
 ·have ha4 := fA.1
  refine dv 8 ?_
  refine u1u rfl rfl rfl (dv 20 ?_)
  refine w5w 7 rfl rfl (fun _ => rfl) ?_
  refine w5w 8 rfl rfl (fun _ => rfl) ?_
  refine dv 1 ?_
  exact ⟨⟨⟨S.s.x, S.s.y, IntKind.i64.wrap (S.s.count + 1)⟩, S.sends, S.outs⟩, ⟨by show S.sends.length ≤ 32; omega, by show S.outs.length ≤ 32; omega, by exact h4⟩, [], rfl, rfl, x4x⟩
 obtain ⟨r, hr⟩ := gE a.rules i
 have hro := fA.2 i r hr
 have hr8 := hro.2.1.2.1
 have ha4 := fA.1
 refine dc 14 (fun K K' K K' => aI ?_ ?_)<;>intro u<;>try simp at u
 ·refine dv 3 ?_
  refine x7x (b := 1) rfl rfl (by omega) (dv 1 ?_)
  exact ⟨(S, i + 1), ⟨(by exact ⟨by show i + 1 ≤ _; omega, by show S.sends.length ≤ 8 * (i + 1); omega, by show S.outs.length ≤ 8 * (i + 1); omega, h4⟩), (by show a.rules.length - (i + 1) < a.rules.length - i; omega)⟩, [0, 0, 0, 0, 0, 0, 0, 0, 0, _, _], x6x, x6x, x4x, x4x, rfl⟩
 refine dv 12 ?_
 refine x5x (ι := Rn × Nat × Nat) (fun p γ2 => [(12, pI (p.2.1 : Int))]) (fun p γ2 => [(9, ((γ2 9), .row 56 7 ((p.1.sends).map y8y))), (10, ((γ2 10), .row 141 5 ((p.1.outs).map w3w))), (11, ((0 + 1), .box 362 [pI p.1.s.x, pI p.1.s.y, pI p.1.s.count, pI e.time, pI e.to, pI e.from', pI e.count, pI e.n, pI e.kind, pI e.arg, .ref 9 (γ2 9), .ref 10 (γ2 10)]))]) (fun p => p.2.1 ≤ 20 ∧ p.2.2 ≤ p.2.1 ∧ p.2.2 ≤ 8 ∧ p.1.sends.length ≤ 8 * i + p.2.2 ∧ p.1.outs.length ≤ 8 * i + p.2.2 ∧ ∀ q ∈ p.1.outs, q.time = e.time) (fun p => 20 - p.2.1) (q3q [3, 5, 6, 9, 10, 11] rfl) (a0j [0, 1, 2, 3, 4, 5, 6, 7, 8] rfl) (S, 0, 0) ⟨Nat.zero_le _, Nat.le_refl _, Nat.zero_le _, h2, h3, h4⟩ [0, 0, 0, 0, 0, 0, 0, 0, 0, _, _] x6x x4x rfl fun p γ2 hi => ?_
 obtain ⟨S, k, m⟩ := p
 obtain ⟨k1, k2, k3, k3a, k4, k5⟩ := hi
 dsimp only at k1 k2 k3 k3a k4 k5 ⊢
 refine dc 6 (fun K K' => aS ?_ ?_)<;>intro u<;>try simp at u
 ·refine dv 3 ?_
  refine x7x (b := 1) rfl rfl (by omega) (dv 1 ?_)
  exact ⟨(S, i + 1), ⟨(by exact ⟨by show i + 1 ≤ _; omega, by show S.sends.length ≤ 8 * (i + 1); omega, by show S.outs.length ≤ 8 * (i + 1); omega, k5⟩), (by show a.rules.length - (i + 1) < a.rules.length - i; omega)⟩, [0, 0, 0, 0, 0, 0, 0, 0, 0, _, _], x6x, x6x, x4x, x4x, rfl⟩
 obtain ⟨o, ho⟩ := gE r.ops k
 have hok := hro.2.1.1 o (List.mem_of_getElem? ho)
 refine dv 3 fun K K' => ?_
 refine a8m fun B X0 w0 => ?_
 refine txR 6 rfl rfl (dv 5 ?_)
 refine u8u (out := .agg (b4w o)) rfl a1p rfl ?_
 refine txM [11, 9, 10] [_, _, _] (c5b S e o hok (by omega) (by omega)) rfl rfl rfl rfl fun j hj => ?_
 obtain ⟨q1, q2, q3, q4, q5⟩ := hj
 obtain ⟨sk, hsk⟩ : ∃ sk : Nat, j.2 = (sk : Int) := ⟨j.2.toNat, by omega⟩
 rw [hsk]
 refine txR 2 rfl rfl (x7x rfl rfl (by omega) (dv 1 ?_))
 refine u0u rfl (dv 2 ?_)
 refine x7x (b := 1) rfl rfl (by omega) (dv 1 ?_)
 exact ⟨(j.1, k + sk + 1, m + 1), ⟨(by exact ⟨by show k + sk + 1 ≤ 20; omega, by show m + 1 ≤ k + sk + 1; omega, by show m + 1 ≤ 8; omega, by show j.1.sends.length ≤ 8 * i + (m + 1); omega, by show j.1.outs.length ≤ 8 * i + (m + 1); omega, fun q hq => (q3 q hq).elim (k5 q) (fun h => h)⟩), (by show 20 - (k + sk + 1) < 20 - k; omega)⟩, [0, 0, 0, 0, 0, 0, 0, 0, 0, _, _], x6x, x6x, x4x, x4x, rfl⟩
end
section
theorem d0l (c : Bool) (p : Pa) (proc : Int) : a0t Tryz.prog 219 [.agg (a2r c p), .pv (.int .i64 proc)] (.pv (.bool (b8w proc p))) := by
 refine pX Tryz.f219 [.pv (.bool (b8w proc p))] 1 ?_
 refine dv 1 ?_
 refine x8x (id := 0) rfl rfl rfl (dv 3 ?_)
 refine y9y (out := .agg (y8y p.ev)) rfl z2z rfl rfl ?_
 refine x0x rfl rfl rfl (b6h ..) (dc 1 (aS ?_ ?_))<;>intro h<;>try simp at h
 ·refine dv 22 ?_
  refine x3x rfl ?_ rfl
  simp [b8w, *]
 refine dc 7 (aS ?_ ?_)<;>intro h<;>try simp at h
 ·refine dv 15 ?_
  refine x3x rfl ?_ rfl
  simp [b8w, *]
 refine dv 1 ?_
 refine y9y (out := .agg (q8q p.after)) rfl a2x rfl rfl ?_
 refine dv 0 ?_
 refine x0x rfl rfl rfl (b6g ..) (dc 2 (aS ?_ ?_))<;>intro h<;>try simp at h
 ·refine dv 10 ?_
  refine x3x rfl ?_ rfl
  simp [b8w, *]
 refine dv 2 ?_
 refine x0x rfl rfl rfl (a9o ..) (dc 2 (aS ?_ ?_))<;>intro h<;>try simp at h
 ·refine dv 5 ?_
  refine x3x rfl ?_ rfl
  simp [b8w, *]
 refine dv 2 ?_
 refine x0x rfl rfl rfl (b9j ..) (dv 3 ?_)
 refine x3x rfl ?_ rfl
 simp [b8w, *]
theorem c1w (c : Bool) (p : Pa) (proc : Int) : a0t Tryz.prog 120 [.agg (a2r c p), .pv (.int .i64 proc)] (.pv (.bool (b8w proc p))) := by
 refine pX Tryz.f120 [.pv (.bool (b8w proc p))] 1 ?_
 refine dv 1 ?_
 refine x8x (id := 0) rfl rfl rfl (dv 3 ?_)
 refine y9y (out := .agg (y8y p.ev)) rfl z2z rfl rfl ?_
 refine x0x rfl rfl rfl (a8g ..) (dc 1 (aS ?_ ?_))<;>intro h<;>try simp at h
 ·refine dv 22 ?_
  refine x3x rfl ?_ rfl
  simp [b8w, *]
 refine dc 7 (aS ?_ ?_)<;>intro h<;>try simp at h
 ·refine dv 15 ?_
  refine x3x rfl ?_ rfl
  simp [b8w, *]
 refine dv 1 ?_
 refine y9y (out := .agg (q8q p.after)) rfl a2x rfl rfl ?_
 refine dv 0 ?_
 refine x0x rfl rfl rfl (a8f ..) (dc 2 (aS ?_ ?_))<;>intro h<;>try simp at h
 ·refine dv 10 ?_
  refine x3x rfl ?_ rfl
  simp [b8w, *]
 refine dv 2 ?_
 refine x0x rfl rfl rfl (a4c ..) (dc 2 (aS ?_ ?_))<;>intro h<;>try simp at h
 ·refine dv 5 ?_
  refine x3x rfl ?_ rfl
  simp [b8w, *]
 refine dv 2 ?_
 refine x0x rfl rfl rfl (a8p ..) (dv 3 ?_)
 refine x3x rfl ?_ rfl
 simp [b8w, *]
theorem a4f  : a0t Tryz.prog 119 [] (.pv (.int .i64 100)) := by
 refine pX Tryz.f119 [.pv (.int .i64 100)] 0 ?_
 refine dv 5 ?_
 exact x3x rfl rfl rfl
theorem b9l (c : Bool) (l : La) : a0t Tryz.prog 113 [.agg (q1q c l)] (.pv (.bool (a6c l))) := by
 refine pX Tryz.f113 [.pv (.bool (a6c l))] 2 ?_
 refine dv 1 ?_
 refine x8x (id := 0) rfl rfl rfl (dv 5 fun K K' => ?_)
 refine x0x rfl rfl rfl (a8o ..) (dc 2 (aS ?_ ?_))<;>intro hg2<;>try simp at hg2
 ·have hn1 : ¬ (0 ≤ l.proc ∧ l.proc ≤ 3) := by omega
  refine dv 11 ?_
  try have hn3 : ¬ l.done.length ≤ 100 := by omega
  refine dv 3 ?_
  refine x3x rfl ?_ rfl
  exact congrArg (fun b : Bool => [AV.pv (.bool b)]) (e9r hn1).symm
 have hc1 : 0 ≤ l.proc ∧ l.proc ≤ 3 := hg2
 refine dv 1 ?_
 refine y9y (out := .agg (q8q l.base)) rfl a2x rfl rfl ?_
 refine dv 0 ?_
 refine x0x rfl rfl rfl (b6g ..) (dc 3 (aS ?_ ?_))<;>intro hg3<;>try simp at hg3
 ·have hn2 : ¬ c5z l.base := hg3
  refine dv 5 ?_
  try have hn3 : ¬ l.done.length ≤ 100 := by omega
  refine dv 3 ?_
  refine x3x rfl ?_ rfl
  exact congrArg (fun b : Bool => [AV.pv (.bool b)]) (e9s hn2).symm
 have hc2 : c5z l.base := hg3
 refine dc 5 (aI ?_ ?_)<;>intro h<;>try simp at h
 ·try have hn3 : ¬ l.done.length ≤ 100 := by omega
  refine dv 3 ?_
  refine x3x rfl ?_ rfl
  exact congrArg (fun b : Bool => [AV.pv (.bool b)]) (e9t hn3).symm
 have hc3 : l.done.length ≤ 100 := by omega
 refine dv 8 fun K K' => ?_
 refine x5x (ι := Nat) (fun i γ1 => [(24, pI (i : Int))]) (fun i γ1 => [(1, ((γ1 1), .dead))]) (fun i => i ≤ l.done.length ∧ a6c l = b1g (b8w l.proc) e9q (b3v l.done i) (l.done.drop i)) (fun i => l.done.length - i) (q3q [1, 22, 23] rfl) (w4w 0 rfl HE.nil) 0 ⟨by omega, c9k hc1 hc2 hc3⟩ [0, _] x6x x4x rfl fun i γ1 hi => ?_
 obtain ⟨h1, h2⟩ := hi
 refine dc 3 (fun K K' => aS ?_ ?_)<;>intro h<;>try simp at h
 ·obtain rfl : i = l.done.length := by omega
  rw [List.drop_length] at h2
  refine dv 4 ?_
  refine x3x rfl ?_ rfl
  exact congrArg (fun b : Bool => [AV.pv (.bool b)]) h2.symm
 obtain ⟨p, hp⟩ := gE l.done i
 rw [p6p hp] at h2
 refine dv 7 fun K K' => ?_
 refine x2x (id := 1) a4k c0g rfl (dv 6 ?_)
 refine x0x rfl rfl rfl (d0l ..) (dc 2 (aS ?_ ?_))<;>intro hg9<;>try simp at hg9
 ·have hbad : b8w l.proc p = false := by simpa using hg9
  refine dv 19 ?_
  refine x3x rfl ?_ rfl
  exact congrArg (fun b : Bool => [AV.pv (.bool b)]) (h2.trans (a7f _ _ hbad)).symm
 have hok : b8w l.proc p = true := by simpa using hg9
 refine dc 3 (aS ?_ ?_)<;>intro h<;>try simp at h
 ·have hi0 : i = 0 := by omega
  have hlast : b3v l.done i = none := by rw [hi0]; rfl
  rw [hlast] at h2
  refine dv 15 ?_
  refine x7x (b := 1) rfl rfl (by omega) (dv 1 ?_)
  exact ⟨i + 1, ⟨⟨by omega, by rw [h2]; show _ = b1g (b8w l.proc) e9q l.done[i]? _; rw [hp]; exact a8x _ _ hok⟩, by omega⟩, [0, _], x6x, x6x, x4x, x4x, rfl⟩
 have hi0 : 0 < i := by omega
 obtain ⟨b, hb⟩ := gE l.done (i - 1)
 have hlast : b3v l.done i = some b := by obtain ⟨j, rfl⟩ : ∃ j, i = j + 1 := ⟨i - 1, by omega⟩; exact hb
 rw [hlast] at h2
 refine dv 3 ?_
 refine w6w (b := 1) rfl rfl (by omega) (by omega) (dv 2 ?_)
 refine u8u (out := .agg (y8y b.ev)) rfl z2z rfl ?_
 refine dv 1 ?_
 refine y9y (out := .agg (y8y p.ev)) rfl z2z rfl rfl ?_
 refine dv 0 ?_
 refine x0x rfl rfl rfl (b3p ..) (dc 3 (aS ?_ ?_))<;>intro hc11<;>try simp at hc11
 ·try have hlt := hc11
  refine dv 2 ?_
  refine x7x (b := 1) rfl rfl (by omega) (dv 1 ?_)
  exact ⟨i + 1, ⟨⟨by omega, by rw [h2]; show _ = b1g (b8w l.proc) e9q l.done[i]? _; rw [hp]; exact b1q _ _ hok hlt⟩, by omega⟩, [0, _], x6x, x6x, x4x, x4x, rfl⟩
 try have hlt := hc11
 refine dv 3 ?_
 refine x3x rfl ?_ rfl
 exact congrArg (fun b : Bool => [AV.pv (.bool b)]) (h2.trans (c0n _ _ hlt)).symm
theorem a4g (c : Bool) (l : La) : a0t Tryz.prog 32 [.agg (q1q c l)] (.pv (.bool (a6c l))) := by
 refine pX Tryz.f32 [.pv (.bool (a6c l))] 1 ?_
 refine dv 1 ?_
 refine x8x (id := 0) rfl rfl rfl (dv 5 fun K K' => ?_)
 refine x0x rfl rfl rfl (a4e ..) (dc 2 (aS ?_ ?_))<;>intro hg2<;>try simp at hg2
 ·have hn1 : ¬ (0 ≤ l.proc ∧ l.proc ≤ 3) := by omega
  refine dv 12 ?_
  try have hn3 : ¬ l.done.length ≤ 100 := by omega
  refine dv 3 ?_
  refine x3x rfl ?_ rfl
  exact congrArg (fun b : Bool => [AV.pv (.bool b)]) (e9r hn1).symm
 have hc1 : 0 ≤ l.proc ∧ l.proc ≤ 3 := hg2
 refine dv 1 ?_
 refine y9y (out := .agg (q8q l.base)) rfl a2x rfl rfl ?_
 refine dv 0 ?_
 refine x0x rfl rfl rfl (a8f ..) (dc 3 (aS ?_ ?_))<;>intro hg3<;>try simp at hg3
 ·have hn2 : ¬ c5z l.base := hg3
  refine dv 6 ?_
  try have hn3 : ¬ l.done.length ≤ 100 := by omega
  refine dv 3 ?_
  refine x3x rfl ?_ rfl
  exact congrArg (fun b : Bool => [AV.pv (.bool b)]) (e9s hn2).symm
 have hc2 : c5z l.base := hg3
 refine dv 3 ?_
 refine x0x rfl rfl rfl (a4f ..) (dc 2 (aI ?_ ?_))<;>intro h<;>try simp at h
 ·try have hn3 : ¬ l.done.length ≤ 100 := by omega
  refine dv 3 ?_
  refine x3x rfl ?_ rfl
  exact congrArg (fun b : Bool => [AV.pv (.bool b)]) (e9t hn3).symm
 have hc3 : l.done.length ≤ 100 := by omega
 refine dv 5 fun K K' => ?_
 refine x5x (ι := Nat) (fun i γ1 => [(3, pI (i : Int))]) (fun i γ1 => []) (fun i => i ≤ l.done.length ∧ a6c l = b1g (b8w l.proc) e9q (b3v l.done i) (l.done.drop i)) (fun i => l.done.length - i) (y0y 1 rfl Cov.nil) (w4w 0 rfl HE.nil) 0 ⟨by omega, c9k hc1 hc2 hc3⟩ [] x6x x4x rfl fun i γ1 hi => ?_
 obtain ⟨h1, h2⟩ := hi
 refine dc 7 (fun K K' => aS ?_ ?_)<;>intro h<;>try simp at h
 ·obtain rfl : i = l.done.length := by omega
  rw [List.drop_length] at h2
  refine dv 4 ?_
  refine x3x rfl ?_ rfl
  exact congrArg (fun b : Bool => [AV.pv (.bool b)]) h2.symm
 obtain ⟨p, hp⟩ := gE l.done i
 rw [p6p hp] at h2
 refine dv 11 fun K K' => ?_
 refine x0x rfl rfl rfl (c1w ..) (dc 2 (aS ?_ ?_))<;>intro hg9<;>try simp at hg9
 ·have hbad : b8w l.proc p = false := by simpa using hg9
  refine dv 23 ?_
  refine x3x rfl ?_ rfl
  exact congrArg (fun b : Bool => [AV.pv (.bool b)]) (h2.trans (a7f _ _ hbad)).symm
 have hok : b8w l.proc p = true := by simpa using hg9
 refine dc 3 (aS ?_ ?_)<;>intro h<;>try simp at h
 ·have hi0 : i = 0 := by omega
  have hlast : b3v l.done i = none := by rw [hi0]; rfl
  rw [hlast] at h2
  refine dv 20 ?_
  refine x7x (b := 1) rfl rfl (by omega) (dv 1 ?_)
  exact ⟨i + 1, ⟨⟨by omega, by rw [h2]; show _ = b1g (b8w l.proc) e9q l.done[i]? _; rw [hp]; exact a8x _ _ hok⟩, by omega⟩, [], x6x, x6x, x4x, x4x, rfl⟩
 have hi0 : 0 < i := by omega
 obtain ⟨b, hb⟩ := gE l.done (i - 1)
 have hlast : b3v l.done i = some b := by obtain ⟨j, rfl⟩ : ∃ j, i = j + 1 := ⟨i - 1, by omega⟩; exact hb
 rw [hlast] at h2
 refine dv 3 ?_
 refine w6w (b := 1) rfl rfl (by omega) (by omega) (dv 2 ?_)
 refine u8u (out := .agg (y8y b.ev)) rfl z2z rfl ?_
 refine dv 5 ?_
 refine u8u (out := .agg (y8y p.ev)) rfl z2z rfl ?_
 refine dv 0 ?_
 refine x0x rfl rfl rfl (a4z ..) (dc 3 (aS ?_ ?_))<;>intro hc11<;>try simp at hc11
 ·try have hlt := hc11
  refine dv 3 ?_
  refine x7x (b := 1) rfl rfl (by omega) (dv 1 ?_)
  exact ⟨i + 1, ⟨⟨by omega, by rw [h2]; show _ = b1g (b8w l.proc) e9q l.done[i]? _; rw [hp]; exact b1q _ _ hok hlt⟩, by omega⟩, [], x6x, x6x, x4x, x4x, rfl⟩
 try have hlt := hc11
 refine dv 3 ?_
 refine x3x rfl ?_ rfl
 exact congrArg (fun b : Bool => [AV.pv (.bool b)]) (h2.trans (c0n _ _ hlt)).symm
end
section
theorem a1s (c : Bool) (l : List Ev) (hl : l.length ≤ 10000000) : a0t Tryz.prog 111 [s1s c l] (s1s true (z5z l)) := by
 refine pX Tryz.f111 [s1s true (z5z l)] 3 ?_
 refine dv 3 ?_
 refine y1y (id := 0) u4u rfl z2z rfl (dv 5 fun K K' => ?_)
 refine x5x (ι := Nat) (fun i γ1 => [(3, .ref 0 (γ1 0)), (4, pI (i : Int))]) (fun i γ1 => [(0, ((γ1 0), .row 56 7 ((z5z (l.take i)).map y8y))), (1, ((γ1 1), .dead)), (2, ((γ1 2), .dead))]) (fun i => i ≤ l.length) (fun i => l.length - i) (y0y 0 rfl Cov.nil) HE.nil 0 (by omega) [_, _, _] x6x (HE.row rfl (by rw [List.take_zero]; rfl) (HE.kill rfl (HE.kill rfl HE.nil))) rfl fun i γ1 hi => ?_
 refine dc 6 (fun K K' => aS ?_ ?_)<;>intro o<;>try simp at o
 ·obtain rfl : i = l.length := by omega
  refine dv 5 ?_
  refine a5d rfl rfl (fun _ => rfl) ?_
  rw [List.take_length]
 obtain ⟨x, hx⟩ := gE l i
 have hol : (z5z (l.take i)).length ≤ 10000000 := Nat.le_trans (a9l _) (by rw [List.length_take]; omega)
 have hss := a9k (l.take i)
 refine dv 7 fun K K' => ?_
 refine w8w (ι := Nat) (fun k γ2 => [(5, pI (k : Int))]) (fun k γ2 => []) (fun k => k ≤ (z5z (l.take i)).length ∧ (∀ (j : Nat) y, k ≤ j → (z5z (l.take i))[j]? = some y → a2q x y = true) ∧ (∀ y, 0 < k → (z5z (l.take i))[k - 1]? = some y → a2q x y = false)) (q3q [0, 3, 4] rfl) (a0j [0, 1, 2] rfl) ?_ fun k γ2 hi => ?_
 ·refine dv 1 ?_
  refine x5x (ι := Nat) (fun k γ3 => [(5, pI (k : Int))]) (fun k γ3 => []) (fun k => k ≤ (z5z (l.take i)).length ∧ (∀ (j : Nat) y, k ≤ j → (z5z (l.take i))[j]? = some y → a2q x y = true)) (fun k => k) (q3q [0, 3, 4] rfl) (a0j [0, 1, 2] rfl) (z5z (l.take i)).length ⟨Nat.le_refl _, fun j y hj hy => by have := (List.getElem?_eq_some_iff.1 hy).1; omega⟩ [] x6x x4x rfl fun k γ3 hi => ?_
  obtain ⟨k1, k2⟩ := hi
  refine dc 5 (fun K K' => aS ?_ ?_)<;>intro o<;>try simp at o
  ·have k0 : k = 0 := by omega
   refine dv 12 ?_
   exact ⟨k, ⟨k1, k2, fun y2 h0 h2 => by omega⟩, [], x6x, x6x, x4x, x4x, rfl⟩
  have k0 : 0 < k := by omega
  obtain ⟨y, hy⟩ := gE (z5z (l.take i)) (k - 1)
  refine dv 6 ?_
  refine w6w (b := 1) rfl rfl (by omega) (by omega) (dv 0 ?_)
  refine y3y (j := k - 1) rfl rfl u4u rfl z2z rfl rfl (by omega) ?_
  refine dv 1 ?_
  refine x0x rfl rfl rfl (a4z ..) (dc 1 (aS ?_ ?_))<;>intro hc7<;>try simp at hc7
  ·try have hlt := hc7
   refine dv 1 ?_
   exact ⟨k, ⟨k1, k2, fun y2 h0 h2 => by (rw [hy] at h2; cases h2; exact hlt)⟩, [], x6x, x6x, x4x, x4x, rfl⟩
  try have hlt := hc7
  refine dv 4 ?_
  refine w6w (b := 1) rfl rfl (by omega) (by omega) (dv 1 ?_)
  exact ⟨k - 1, ⟨⟨by omega, fun j y2 hj hy2 => by by_cases hjk : j = k - 1; (subst hjk; rw [hy] at hy2; cases hy2; exact hlt); exact k2 j y2 (by omega) hy2⟩, by omega⟩, [], x6x, x6x, x4x, x4x, rfl⟩
 ·try dsimp only [a9u, a9v]
  obtain ⟨c1, c2, c3⟩ := hi
  refine dc 5 (fun K K' => aS ?_ ?_)<;>intro o<;>try simp at o
  ·have k0 : k = 0 := by omega
   refine dv 11 ?_
   have hin : z5z (l.take (i + 1)) = (z5z (l.take i)).take k ++ x :: (z5z (l.take i)).drop k := by rw [a6v hx]; exact c9m c1v hss c2 (fun y2 h0 h2 => ⟨c3 y2 h0 h2, by omega⟩) c1
   refine dv 7 ?_
   refine y2y (id := 1) u4u rfl z2z rfl rfl rfl rfl rfl rfl ?_
   refine y7y (zs := (z5z (l.take i) ++ [x]).map y8y) rfl rfl u4u rfl z2z rfl rfl rfl rfl (by rfl) (z7z _ _ _) (by have hb56 : T56.bytes = 56 := rfl; rw [List.length_map, hb56]; simp only [r0r, r5r, r8r]; omega) ?_
   refine dv 5 fun K K' => ?_
   refine w6w (b := 1) rfl rfl (by (simp; done)) (by (simp; omega)) ?_
   refine dv 2 ?_
   refine x5x (ι := Nat × Ev) (fun q γ5 => [(6, pI (q.1 : Int))]) (fun q γ5 => [(0, ((γ1 0 + 1), .row 56 7 (((z5z (l.take i)).take q.1 ++ q.2 :: (z5z (l.take i)).drop q.1).map y8y)))]) (fun q => k ≤ q.1 ∧ q.1 ≤ (z5z (l.take i)).length) (fun q => q.1) (q3q [0, 3, 4, 5] rfl) (a0j [1, 2] rfl) ((z5z (l.take i)).length, x) ⟨c1, Nat.le_refl _⟩ [] (Cov.cons' (t := 6) rfl (by simp) Cov.nil) (HE.row rfl (by rw [List.take_length, List.drop_length]) HE.nil) rfl fun q γ5 hi => ?_
   obtain ⟨m, u⟩ := q
   obtain ⟨m1, m2⟩ := hi
   dsimp only at m1 m2 ⊢
   refine dc 5 (fun K K' => aS ?_ ?_)<;>intro o<;>try simp at o
   ·obtain rfl : k = m := by omega
    refine b0q (hkL (by assumption) ?_)
    refine exG (q0q rfl (q0q rfl (q0q rfl (q0q rfl (a9c rfl rfl u4u rfl z2z rfl hx (a7r rfl z2z rfl rfl ?_))))))
    refine y3y (j := k) rfl rfl u4u rfl z2z rfl rfl (z0z (b5x c1)) ?_
    refine u3u (el' := x) rfl rfl z2z rfl rfl rfl (b5x c1) rfl (a0x _) rfl rfl ?_
    refine dv 2 ?_
    refine x7x (b := 1) rfl rfl (by omega) (dv 1 ?_)
    exact ⟨i + 1, ⟨by omega, by omega⟩, [_, _, _], x6x, x6x, (HE.row rfl (by rw [hin, d2k c1]) (HE.kill rfl (HE.kill rfl HE.nil))), x4x, rfl⟩
   obtain ⟨z, hz⟩ := gE (z5z (l.take i)) (m - 1)
   refine dv 8 fun K K' => ?_
   refine w6w (b := 1) rfl rfl (by omega) (by omega) ?_
   refine y3y (j := m - 1) rfl rfl u4u rfl z2z rfl rfl (z0z (c1q m2 (by omega) hz)) ?_
   refine s7s rfl z2z rfl (c1q m2 (by omega) hz) rfl rfl ?_
   refine y3y (j := m) rfl rfl u4u rfl z2z rfl rfl (z0z (b5x m2)) ?_
   refine u3u (el' := z) rfl rfl z2z rfl rfl rfl (b5x m2) rfl (a0x _) rfl rfl ?_
   refine dv 2 ?_
   refine w6w (b := 1) rfl rfl (by omega) (by omega) (dv 1 ?_)
   exact ⟨(m - 1, z), ⟨⟨by dsimp only; omega, by dsimp only; omega⟩, (by dsimp only; omega)⟩, [], x6x, x6x, (HE.row rfl (by rw [d6s m2 (by omega) hz]) HE.nil), x4x, rfl⟩
  have k0 : 0 < k := by omega
  obtain ⟨y, hy⟩ := gE (z5z (l.take i)) (k - 1)
  refine dv 2 ?_
  refine w6w (b := 1) rfl rfl (by omega) (by omega) (dv 0 ?_)
  refine y3y (j := k - 1) rfl rfl u4u rfl z2z rfl rfl (by omega) ?_
  refine dv 5 ?_
  refine a9b rfl rfl (by intro a c h; cases h) (.inl rfl) (e9w _ _ _ _) ?_
  refine dc 1 (aI ?_ ?_)<;>intro hc11<;>try simp at hc11
  ·have hyx : y = x := by simpa [a2c] using hc11
   have hsk : z5z (l.take (i + 1)) = z5z (l.take i) := by rw [a6v hx]; exact e2z c1v hss (List.mem_of_getElem? (hyx ▸ hy))
   refine dv 3 ?_
   refine x7x (b := 1) rfl rfl (by omega) (dv 1 ?_)
   exact ⟨i + 1, ⟨by omega, by omega⟩, [_, _, _], x6x, x6x, (HE.row rfl (by rw [hsk]) (HE.kill rfl (HE.kill rfl HE.nil))), x4x, rfl⟩
  try have hyx : ¬ y = x := by simpa [a2c] using hc11
  have hin : z5z (l.take (i + 1)) = (z5z (l.take i)).take k ++ x :: (z5z (l.take i)).drop k := by rw [a6v hx]; exact c9m c1v hss c2 (fun y2 h0 h2 => ⟨c3 y2 h0 h2, by (rw [hy] at h2; cases h2; exact hyx)⟩) c1
  refine dv 7 ?_
  refine y2y (id := 1) u4u rfl z2z rfl rfl rfl rfl rfl rfl ?_
  refine y7y (zs := (z5z (l.take i) ++ [x]).map y8y) rfl rfl u4u rfl z2z rfl rfl rfl rfl (by rfl) (z7z _ _ _) (by have hb56 : T56.bytes = 56 := rfl; rw [List.length_map, hb56]; simp only [r0r, r5r, r8r]; omega) ?_
  refine dv 5 fun K K' => ?_
  refine w6w (b := 1) rfl rfl (by (simp; done)) (by (simp; omega)) ?_
  refine dv 2 ?_
  refine x5x (ι := Nat × Ev) (fun q γ4 => [(6, pI (q.1 : Int))]) (fun q γ4 => [(0, ((γ1 0 + 1), .row 56 7 (((z5z (l.take i)).take q.1 ++ q.2 :: (z5z (l.take i)).drop q.1).map y8y)))]) (fun q => k ≤ q.1 ∧ q.1 ≤ (z5z (l.take i)).length) (fun q => q.1) (q3q [0, 3, 4, 5] rfl) (a0j [1, 2] rfl) ((z5z (l.take i)).length, x) ⟨c1, Nat.le_refl _⟩ [] (Cov.cons' (t := 6) rfl (by simp) Cov.nil) (HE.row rfl (by rw [List.take_length, List.drop_length]) HE.nil) rfl fun q γ4 hi => ?_
  obtain ⟨m, u⟩ := q
  obtain ⟨m1, m2⟩ := hi
  dsimp only at m1 m2 ⊢
  refine dc 5 (fun K K' => aS ?_ ?_)<;>intro o<;>try simp at o
  ·obtain rfl : k = m := by omega
   refine b0q (hkL (by assumption) ?_)
   refine exG (q0q rfl (q0q rfl (q0q rfl (q0q rfl (a9c rfl rfl u4u rfl z2z rfl hx (a7r rfl z2z rfl rfl ?_))))))
   refine y3y (j := k) rfl rfl u4u rfl z2z rfl rfl (z0z (b5x c1)) ?_
   refine u3u (el' := x) rfl rfl z2z rfl rfl rfl (b5x c1) rfl (a0x _) rfl rfl ?_
   refine dv 2 ?_
   refine x7x (b := 1) rfl rfl (by omega) (dv 1 ?_)
   exact ⟨i + 1, ⟨by omega, by omega⟩, [_, _, _], x6x, x6x, (HE.row rfl (by rw [hin, d2k c1]) (HE.kill rfl (HE.kill rfl HE.nil))), x4x, rfl⟩
  obtain ⟨z, hz⟩ := gE (z5z (l.take i)) (m - 1)
  refine dv 8 fun K K' => ?_
  refine w6w (b := 1) rfl rfl (by omega) (by omega) ?_
  refine y3y (j := m - 1) rfl rfl u4u rfl z2z rfl rfl (z0z (c1q m2 (by omega) hz)) ?_
  refine s7s rfl z2z rfl (c1q m2 (by omega) hz) rfl rfl ?_
  refine y3y (j := m) rfl rfl u4u rfl z2z rfl rfl (z0z (b5x m2)) ?_
  refine u3u (el' := z) rfl rfl z2z rfl rfl rfl (b5x m2) rfl (a0x _) rfl rfl ?_
  refine dv 2 ?_
  refine w6w (b := 1) rfl rfl (by omega) (by omega) (dv 1 ?_)
  exact ⟨(m - 1, z), ⟨⟨by dsimp only; omega, by dsimp only; omega⟩, (by dsimp only; omega)⟩, [], x6x, x6x, (HE.row rfl (by rw [d6s m2 (by omega) hz]) HE.nil), x4x, rfl⟩
end
section
theorem a3o (c : Bool) (l : La) (f t : Nat) (hlen : l.done.length ≤ 1000000) (hf : f ≤ 1000000) (ht : t ≤ 1000000) (hb : ∀ p ∈ l.done, p.sends.length ≤ 1000000 ∧ p.outs.length ≤ 1000000) : a0t Tryz.prog 110 [.agg (q1q c l), .pv (.int .i64 (f : Int)), .pv (.int .i64 (t : Int))] (.agg (q1q true (a2i l f t))) := by
 refine pX Tryz.f110 [.agg (q1q true (a2i l f t))] 11 ?_
 refine dv 1 ?_
 refine x8x (id := 0) rfl rfl rfl (x2x (id := 1) a0k a6r rfl (dv 5 ?_))
 refine rlB a0k a6r ?_
 refine x2x (id := 2) a0k a6r rfl (dv 6 fun K K' => ?_)
 refine a0f 2 4 10 58 12 rfl rfl rfl rfl rfl ?_
 refine x5x (ι := Nat) (fun i γ1 => [(8, pI (i : Int))]) (fun i γ1 => [(10, ((γ1 10), .row 58 12 (((l.done.take i).drop f).map (a2r true)))), (2, ((0 + 1), .box 44 [pI l.proc, pI l.base.x, pI l.base.y, pI l.base.count, .ref 10 (γ1 10)])), (3, ((γ1 3), .dead)), (4, ((γ1 4), .dead)), (5, ((γ1 5), .dead)), (6, ((γ1 6), .dead)), (7, ((γ1 7), .dead)), (8, ((γ1 8), .dead)), (9, ((γ1 9), .dead))]) (fun i => f ≤ i ∧ (i = f ∨ (i ≤ t ∧ i ≤ l.done.length))) (fun i => l.done.length - i) (q3q [2, 3, 6, 7] rfl) (a0j [0, 1] rfl) f ⟨Nat.le_refl _, .inl rfl⟩ [0, 0, 0, _, _, _, _, _, _, _, _] x6x (HE.row rfl (by rw [List.drop_of_length_le (by rw [List.length_take]; omega)]; rfl) (HE.box rfl rfl (HE.kill rfl (HE.kill rfl (HE.kill rfl (HE.kill rfl (HE.kill rfl (HE.kill rfl (HE.kill rfl HE.nil))))))))) rfl fun i γ1 hi => ?_
 obtain ⟨k1, k2⟩ := hi
 refine dc 6 (fun K K' => aS ?_ ?_)<;>intro h<;>try simp at h
 ·refine dv 6 ?_
  have hfin : (l.done.take i).drop f = (l.done.take t).drop f := c9p k1 k2 (by omega)
  refine dv 5 ?_
  rw [a2i, ← hfin]
  exact ⟨_, _, rfl, .agg rfl (.cl rfl (.cl rfl (.cl rfl (.cl rfl (.ref rfl (Le.ow_map _ (fun _ => rfl) (fun _ => rfl)) .nil))))) .nil⟩
 refine dc 6 (aS ?_ ?_)<;>intro h<;>try simp at h
 ·have hfin : (l.done.take i).drop f = (l.done.take t).drop f := c9p k1 k2 (by omega)
  refine dv 5 ?_
  rw [a2i, ← hfin]
  exact ⟨_, _, rfl, .agg rfl (.cl rfl (.cl rfl (.cl rfl (.cl rfl (.ref rfl (Le.ow_map _ (fun _ => rfl) (fun _ => rfl)) .nil))))) .nil⟩
 obtain ⟨p, hp⟩ := gE l.done i
 have g1 : i < t := by omega
 obtain ⟨hps, hpo⟩ := hb p (List.mem_of_getElem? hp)
 refine dv 9 fun K K' => ?_
 refine x2x (id := 3) a4k c0g rfl (dv 5 ?_)
 refine y9y (out := .agg (y8y p.ev)) rfl z2z rfl rfl ?_
 refine dv 1 ?_
 refine y9y (out := .agg (q8q p.after)) rfl a2x rfl rfl ?_
 refine y1y (id := 4) u4u rfl z2z rfl (dv 2 ?_)
 refine a1w p1p (zs := (p.sends).map y8y) rfl rfl u4u rfl z2z rfl rfl rfl (z6z (fun _ => rfl) _) rfl (by (simp only [s3s, r0r, r5r, r8r, a0p, a2m, b3h, T56]; omega)) (Le.ow_map _ (fun _ => rfl) (fun _ => rfl)) ?_
 refine y1y (id := 6) p5p rfl z9z rfl (dv 2 ?_)
 refine a1w p1p (zs := (p.outs).map w3w) rfl rfl p5p rfl z9z rfl rfl rfl (z6z (fun _ => rfl) _) rfl (by (simp only [s3s, r0r, r5r, r8r, a0p, a2m, b3h, T141]; omega)) (Le.ow_map _ (fun _ => rfl) (fun _ => rfl)) ?_
 refine rlB a4k c0g ?_
 refine y2y (id := 8) a6m rfl a4k rfl rfl rfl rfl rfl rfl ?_
 refine y7y (zs := ((l.done.take i).drop f ++ [p]).map (a2r true)) rfl rfl a6m rfl a4k rfl rfl rfl rfl (by rfl) (z7z _ _ _) (by (simp only [s3s, r0r, r5r, r8r, a0p, a2m, b3h, T58]; omega)) ?_
 refine dv 4 ?_
 refine x7x (b := 1) rfl rfl (by omega) (dv 1 ?_)
 exact ⟨i + 1, ⟨⟨by omega, .inr ⟨by omega, by omega⟩⟩, by omega⟩, [0, 0, 0, _, _, _, _, _, _, _, _], x6x, x6x, (HE.row rfl (by rw [z8z hp, List.drop_append_of_le_length (by rw [List.length_take]; omega)]) (HE.box rfl rfl (HE.kill rfl (HE.kill rfl (HE.kill rfl (HE.kill rfl (HE.kill rfl (HE.kill rfl (HE.kill rfl HE.nil))))))))), x4x, rfl⟩
theorem a6w (c : Bool) (n : Nd) (hl : n.lanes.length ≤ 1000000) (hk : n.kept.length ≤ 1000000) (ho : n.outs.length ≤ 1000000) (hd : ∀ l ∈ n.lanes, lb l) : Meth Tryz.prog 155 3 [] [.agg (u2u c n)] [(0, (0, .dead)), (1, (0, .dead)), (2, (0, .dead))] (.agg [pI n.id, .pv (.bool n.up), pI n.inc, pI n.g, .ref 0 0, s1s true n.kept, q7q true n.outs, pI n.led, pI 0, .ref 1 0, .ref 2 0, pI 0, pI 41]) [(0, (0, .row 44 5 ((n.lanes.map r3r).map (q1q true)))), (1, (0, .row 190 3 ([vi0, vi0, vi0].map (a2l true)))), (2, (0, .row 3 1 ([0, 0, 0].map a3i)))] := by
 refine mX Tryz.f155 [.agg [pI n.id, .pv (.bool n.up), pI n.inc, pI n.g, .ref 0 0, s1s true n.kept, q7q true n.outs, pI n.led, pI 0, .ref 1 0, .ref 2 0, pI 0, pI 41]] 3 13 fun γ => ?_
 refine dv 1 ?_
 refine x8x (id := 3) rfl rfl rfl (x2x (id := 4) u6u p9p rfl (dv 9 ?_))
 refine y1y (id := 5) u4u rfl z2z rfl (dv 2 ?_)
 refine a1w p1p (zs := (n.kept).map y8y) rfl rfl u4u rfl z2z rfl rfl rfl (z6z (fun _ => rfl) _) rfl (by (simp only [s3s, r0r, r5r, r8r, a0p, a2m, b3h, T56]; omega)) (Le.ow_map _ (fun _ => rfl) (fun _ => rfl)) ?_
 refine y1y (id := 7) p5p rfl z9z rfl (dv 2 ?_)
 refine a1w p1p (zs := (n.outs).map w3w) rfl rfl p5p rfl z9z rfl rfl rfl (z6z (fun _ => rfl) _) rfl (by (simp only [s3s, r0r, r5r, r8r, a0p, a2m, b3h, T141]; omega)) (Le.ow_map _ (fun _ => rfl) (fun _ => rfl)) ?_
 refine dv 2 ?_
 refine rlB u6u p9p ?_
 refine x2x (id := 9) u6u p9p rfl (dv 5 fun K K' => ?_)
 refine a0f 9 4 0 44 5 rfl rfl rfl rfl rfl ?_
 refine x5x (ι := Nat) (fun i γ1 => [(4, pI (i : Int))]) (fun i γ1 => [(0, ((γ1 0), .row 44 5 (((n.lanes.take i).map r3r).map (q1q true)))), (9, ((0 + 1), .box 65 [pI n.id, .pv (.bool n.up), pI n.inc, pI n.g, .ref 0 (γ1 0), s1s true n.kept, q7q true n.outs, pI n.led, pI 0, .pv (.slice none 0 0), .pv (.slice none 0 0), pI 0, pI 41])), (10, ((γ1 10), .dead)), (11, ((γ1 11), .dead))]) (fun i => i ≤ n.lanes.length) (fun i => n.lanes.length - i) (q3q [1, 2, 3] rfl) (a0j [1, 2, 3, 4, 5, 6, 7, 8, 12, 13, 14, 15] rfl) 0 (by omega) [_, 0, 0, 0, 0, 0, 0, 0, 0, 0, _, _] x6x (HE.row rfl (by rw [List.take_zero]; rfl) (HE.box rfl rfl (HE.kill rfl (HE.kill rfl HE.nil)))) rfl fun i γ1 hi => ?_
 refine dc 7 (fun K K' => aI ?_ ?_)<;>intro h<;>try simp at h
 ·obtain ⟨a, ha⟩ := gE n.lanes i
  have had := hd a (List.mem_of_getElem? ha)
  refine dv 11 fun K K' => ?_
  refine x0x rfl rfl rfl (a3o c a 0 0 had.1 (by omega) (by omega) had.2) ?_
  refine y2y (id := 10) a8c rfl a0k rfl rfl rfl rfl rfl rfl ?_
  refine y7y (zs := ((n.lanes.take i).map r3r ++ [r3r a]).map (q1q true)) rfl rfl a8c rfl a0k rfl rfl rfl rfl (by rfl) (z7z _ _ _) (by (simp only [s3s, r0r, r5r, r8r, a0p, a2m, b3h, T44]; omega)) ?_
  refine dv 4 ?_
  refine u1u rfl rfl rfl (dv 1 ?_)
  exact ⟨i + 1, ⟨by omega, by omega⟩, [_, 0, 0, 0, 0, 0, 0, 0, 0, 0, _, _], (Cov.cons' (t := 4) rfl (by rw [x9x (by omega) (by omega)]; rfl) Cov.nil), x6x, (HE.row rfl (by simp only [z8z ha, List.map_append, List.map_cons, List.map_nil]) (HE.box rfl rfl (HE.kill rfl (HE.kill rfl HE.nil)))), x4x, rfl⟩
 obtain rfl : i = n.lanes.length := by omega
 refine dv 5 fun K K' => ?_
 refine a0f 9 9 1 190 3 rfl rfl rfl rfl rfl (a0f 9 10 2 3 1 rfl rfl rfl rfl rfl ?_)
 refine x5x (ι := Nat) (fun i γ2 => [(5, pI (i : Int))]) (fun i γ2 => [(1, ((γ2 1), .row 190 3 ((List.range i).map fun _ => b3o))), (2, ((γ2 2), .row 3 1 ((List.range i).map fun _ => a3i 0))), (9, ((0 + 1), .box 65 [pI n.id, .pv (.bool n.up), pI n.inc, pI n.g, .ref 0 (γ1 0), s1s true n.kept, q7q true n.outs, pI n.led, pI 0, .ref 1 (γ2 1), .ref 2 (γ2 2), pI 0, pI 41])), (12, ((γ2 12), .dead)), (13, ((γ2 13), .dead)), (14, ((γ2 14), .dead)), (15, ((γ2 15), .dead))]) (fun i => i ≤ 3) (fun i => 3 - i) (q3q [2, 3] rfl) (a0j [0, 3, 4, 5, 6, 7, 8, 10, 11] rfl) 0 (by omega) [0, _, _, 0, 0, 0, 0, 0, 0, 0, 0, 0, _, _, _, _] x6x x4x rfl fun i γ2 hi => ?_
 refine dc 4 (fun K K' => aS ?_ ?_)<;>intro h<;>try simp at h
 ·obtain rfl : i = 3 := by omega
  rw [List.take_length]
  refine dv 4 ?_
  refine d1x (f := fun _ => b3o) (f' := fun _ => a2l true vi0) (l := List.range 3) 1 rfl (fun _ => .same (.same (.le rfl .nil rfl .nil))) ?_
  refine dv 1 ?_
  exact ⟨[_, _, _], rfl, rfl, x4x⟩
 refine dv 6 fun K K' => ?_
 refine rlB s5s a6q ?_
 refine y2y (id := 12) a9w rfl s5s rfl rfl rfl rfl rfl rfl ?_
 refine y7y (zs := (List.range i).map (fun _ => b3o) ++ [b3o]) rfl rfl a9w rfl s5s rfl rfl rfl rfl (by rfl) rfl (by (simp only [s3s, r0r, r5r, r8r, a0p, a2m, b3h, T190]; omega)) ?_
 refine dv 5 ?_
 refine b1m (id := 14) a0l rfl s4s rfl rfl rfl rfl rfl ?_
 refine y7y (zs := (List.range i).map (fun _ => a3i 0) ++ [a3i 0]) rfl rfl a0l rfl s4s rfl rfl rfl rfl (by rfl) rfl (by (simp only [s3s, r0r, r5r, r8r, a0p, a2m, b3h, T3]; omega)) ?_
 refine dv 4 ?_
 refine u1u rfl rfl rfl (dv 1 ?_)
 exact ⟨i + 1, ⟨by omega, by omega⟩, [0, _, _, 0, 0, 0, 0, 0, 0, 0, 0, 0, _, _, _, _], (Cov.cons' (t := 5) rfl (by rw [x9x (by omega) (by omega)]; rfl) Cov.nil), x6x, (HE.row rfl (by rw [List.range_succ, List.map_append]; rfl) (HE.row rfl (by rw [List.range_succ, List.map_append]; rfl) (HE.box rfl rfl (HE.kill rfl (HE.kill rfl (HE.kill rfl (HE.kill rfl HE.nil))))))), x4x, rfl⟩
end
section
theorem a6g (c : Bool) (l : La) (h : lb l) : a0t Tryz.prog 110 [.agg (q1q c l), .pv (.int .i64 ((0 : Nat) : Int)), .pv (.int .i64 (l.done.length : Int))] (.agg (q1q true l)) := by
 have := a3o c l 0 l.done.length h.1 (by omega) h.1 h.2
 rw [b7j] at this
 exact this
theorem y6y (c : Bool) (n : Nd) (h : nb n) : Meth Tryz.prog 161 3 [] [.agg (u2u c n)] [(0, (0, .dead)), (1, (0, .dead)), (2, (0, .dead))] (.agg [pI n.id, .pv (.bool n.up), pI n.inc, pI n.g, .ref 0 0, s1s true n.kept, q7q true n.outs, pI n.led, pI n.version, .ref 1 0, .ref 2 0, pI n.round, pI n.low]) [(0, (0, .row 44 5 ((n.lanes).map (q1q true)))), (1, (0, .row 190 3 ((n.views).map (a2l true)))), (2, (0, .row 3 1 (n.known.map a3i)))] := by
 refine mX Tryz.f161 [.agg [pI n.id, .pv (.bool n.up), pI n.inc, pI n.g, .ref 0 0, s1s true n.kept, q7q true n.outs, pI n.led, pI n.version, .ref 1 0, .ref 2 0, pI n.round, pI n.low]] 3 10 fun γ => ?_
 obtain ⟨b1, b2, b3, b4, b5, b6, b7⟩ := h
 refine dv 1 ?_
 refine x8x (id := 3) rfl rfl rfl (x2x (id := 4) u6u p9p rfl (dv 2 ?_))
 refine rlM [0, 11, 12] [_, _, _] (a6w c n b1 b2 b3 b4) rfl rfl rfl ?_
 refine x2x (id := 5) u6u p9p rfl (dv 5 fun K K' => ?_)
 refine x5x (ι := Nat) (fun i γ1 => [(4, pI (i : Int))]) (fun i γ1 => [(0, ((γ 0 + 1), .row 44 5 ((n.lanes.take i ++ (n.lanes.drop i).map r3r).map (q1q true))))]) (fun i => i ≤ n.lanes.length) (fun i => n.lanes.length - i) (q3q [1, 2, 3] rfl) (a0j [1, 2, 3, 4, 5, 6, 7, 8, 9, 10, 11, 12] rfl) 0 (by omega) [] x6x (HE.row rfl (by rw [List.take_zero, List.drop_zero]; rfl) HE.nil) rfl fun i γ1 hi => ?_
 refine dc 7 (fun K K' => aI ?_ ?_)<;>intro o<;>try simp at o
 ·obtain ⟨p, hp⟩ := gE n.lanes i
  have hpl := b4 p (List.mem_of_getElem? hp)
  have hAl : ((n.lanes.take i).map (q1q true)).length = i := by rw [List.length_map, List.length_take]; omega
  rw [p6p hp, List.map_cons, List.map_append, List.map_cons]
  refine dv 19 fun K K' => ?_
  refine x0x rfl rfl rfl (a6g c p hpl) (b4h rfl rfl a8c rfl a0k rfl rfl hAl (b1n hAl rfl rfl a0k rfl rfl rfl rfl (s6s rfl) rfl ?_))
  refine dv 2 ?_
  refine u1u rfl rfl rfl (dv 1 ?_)
  exact ⟨i + 1, ⟨by omega, by omega⟩, [], (Cov.cons' (t := 4) rfl (by rw [x9x (by omega) (by omega)]; rfl) Cov.nil), x6x, (HE.row rfl (by simp only [z8z hp, List.map_append, List.append_assoc]; rfl) HE.nil), x4x, rfl⟩
 obtain rfl : i = n.lanes.length := by omega
 rw [List.take_length, List.drop_length, List.map_nil, List.append_nil]
 refine dv 17 ?_
 refine y1y (id := 1) a9w rfl s5s rfl (dv 6 fun K K' => ?_)
 refine x5x (ι := Nat) (fun j γ2 => [(5, pI (j : Int))]) (fun j γ2 => [(1, ((γ2 1), .row 190 3 ((n.views.take j).map (a2l true)))), (5, ((0 + 1), .box 65 [pI n.id, .pv (.bool n.up), pI n.inc, pI n.g, .ref 0 (γ 0 + 1), s1s true n.kept, q7q true n.outs, pI n.led, pI n.version, .ref 1 (γ2 1), .ref 12 (0 + 1), pI n.round, pI n.low])), (6, ((γ2 6), .dead)), (7, ((γ2 7), .dead)), (8, ((γ2 8), .dead)), (9, ((γ2 9), .dead))]) (fun j => j ≤ n.views.length) (fun j => n.views.length - j) (q3q [1, 2, 3] rfl) (a0j [0, 2, 3, 4, 10, 11, 12] rfl) 0 (by omega) [0, _, 0, 0, 0, 0, _, _, _, _] x6x (HE.row rfl (by rw [List.take_zero]; rfl) (HE.box rfl rfl (HE.kill rfl (HE.kill rfl (HE.kill rfl (HE.kill rfl HE.nil)))))) rfl fun j γ2 hi => ?_
 refine dc 7 (fun K K' => aS ?_ ?_)<;>intro o<;>try simp at o
 ·obtain rfl : j = n.views.length := by omega
  rw [List.take_length]
  refine dv 2 ?_
  refine y1y (id := 2) a0l rfl s4s rfl (dv 2 ?_)
  refine w2w (zs := n.known.map a3i) rfl rfl a0l rfl s4s rfl rfl rfl (z6z (fun _ => rfl) _) rfl (by (simp only [s3s, r0r, r5r, r8r, a0p, a2m, b3h, T3]; omega)) ?_
  refine dv 6 ?_
  exact ⟨[_, _, _], rfl, rfl, x4x⟩
 obtain ⟨v, hv⟩ := gE n.views j
 have hve := b6 v (List.mem_of_getElem? hv)
 refine dv 18 fun K K' => ?_
 refine y1y (id := 6) u4u rfl z2z rfl (dv 6 ?_)
 refine a1w p1p (zs := (v.events).map y8y) rfl rfl u4u rfl z2z rfl rfl rfl (z6z (fun _ => rfl) _) rfl (by (simp only [s3s, r0r, r5r, r8r, a0p, a2m, b3h, T56]; omega)) (Le.ow_map _ (fun _ => rfl) (fun _ => rfl)) ?_
 refine rlB s5s a6q ?_
 refine y2y (id := 8) a9w rfl s5s rfl rfl rfl rfl rfl rfl ?_
 refine y7y (zs := (n.views.take j ++ [v]).map (a2l true)) rfl rfl a9w rfl s5s rfl rfl rfl rfl (by rfl) (z7z _ _ _) (by (simp only [s3s, r0r, r5r, r8r, a0p, a2m, b3h, T190]; omega)) ?_
 refine dv 4 ?_
 refine u1u rfl rfl rfl (dv 1 ?_)
 exact ⟨j + 1, ⟨by omega, by omega⟩, [0, _, 0, 0, 0, 0, _, _, _, _], (Cov.cons' (t := 5) rfl (by rw [x9x (by omega) (by omega)]; rfl) Cov.nil), x6x, (HE.row rfl (by rw [z8z hv]) (HE.box rfl rfl (HE.kill rfl (HE.kill rfl (HE.kill rfl (HE.kill rfl HE.nil)))))), x4x, rfl⟩
end
section
theorem c6l (c c' : Bool) (l : La) (s : List Ev) : a0t Tryz.prog 291 [.agg (q1q c l), s1s c' s] (.pv (.bool (kb (b4o l s)))) := by
 refine pX Tryz.f291 [.pv (.bool (kb (b4o l s)))] 1 ?_
 refine dv 1 ?_
 refine x8x (id := 0) rfl rfl rfl (dv 4 fun K K' => ?_)
 refine x0x rfl rfl rfl (a4f ..) (x0x rfl rfl rfl (a4c ..) (dc 1 (aI ?_ ?_)))<;>intro hc2<;>try simp at hc2
 ·try have hX : ¬ a9h okE a2q s 100 = true := by simpa using hc2
  refine dv 3 ?_
  refine x3x rfl ?_ rfl
  exact congrArg (fun b : Bool => [AV.pv (.bool b)]) (a5o (fun h => hX h.1))
 have hA : a9h okE a2q s 100 = true := hc2
 refine dv 5 fun K K' => ?_
 refine u9u 1 rfl fun hlen => ?_
 refine x5x (ι := Nat) (fun i γ1 => [(5, pI (i : Int))]) (fun i γ1 => []) (fun i => i ≤ s.length ∧ d0v s (fun _ e => e.to = l.proc) i) (fun i => s.length - i) (q3q [1, 2] rfl) (w4w 0 rfl HE.nil) 0 ⟨by omega, a1u⟩ [] x6x x4x rfl fun i γ1 hi => ?_
 obtain ⟨h1, h2⟩ := hi
 refine dc 6 (fun K K' => aS ?_ ?_)<;>intro j<;>try simp at j
 ·have hall := a3t h2 (by omega)
  refine dv 4 ?_
  refine x3x rfl ?_ rfl
  exact congrArg (fun b : Bool => [AV.pv (.bool b)]) (e2x ⟨hA, fun e he => by obtain ⟨i, hi⟩ := List.getElem?_of_mem he; exact hall i e hi⟩)
 obtain ⟨e, he⟩ := gE s i
 refine dc 12 (fun K K' => aS ?_ ?_)<;>intro j<;>try simp at j
 ·have hto : e.to = l.proc := by omega
  refine dv 3 ?_
  refine x7x (b := 1) rfl rfl (by omega) (dv 1 ?_)
  exact ⟨i + 1, ⟨⟨by omega, a0i h2 he hto⟩, by omega⟩, [], x6x, x6x, x4x, x4x, rfl⟩
 have hX : ¬ e.to = l.proc := by omega
 refine dv 3 ?_
 refine x3x rfl ?_ rfl
 exact congrArg (fun b : Bool => [AV.pv (.bool b)]) (a5o (fun h => hX (h.2 e (List.mem_of_getElem? he))))
theorem b5f (c c' : Bool) (l : La) (s : List Ev) : a0t Tryz.prog 241 [.agg (q1q c l), s1s c' s] (.tup [.agg (y8y (b3w l s).1), .pv (.bool (b3w l s).2)]) := by
 refine pX Tryz.f241 [.agg (y8y (b3w l s).1), .pv (.bool (b3w l s).2)] 2 ?_
 have hsm := c2i l.done s
 refine dv 1 ?_
 refine x8x (id := 0) rfl rfl rfl (x2x (id := 1) z2z a6n rfl (dv 4 fun K K' => ?_))
 refine x0x rfl rfl rfl (a4g ..) (dc 2 (aS ?_ ?_))<;>intro hg2<;>try simp at hg2
 ·have fX : ¬ (a6c l = true ∧ b4o l s) := fun h => by have := h.1; simp_all
  refine dv 6 ?_
  refine rlB z2z a6n ?_
  refine dv 3 ?_
  (rw [d4q fX]; exact ⟨_, _, rfl, .agg rfl (.cl rfl (.cl rfl (.cl rfl (.cl rfl (.cl rfl (.cl rfl (.cl rfl .nil))))))) (.cl rfl .nil)⟩)
 have fL : a6c l = true := hg2
 refine dv 2 ?_
 refine x0x rfl rfl rfl (c6l ..) (dc 2 (aI ?_ ?_))<;>intro hc3<;>try simp at hc3
 ·have fX : ¬ (a6c l = true ∧ b4o l s) := fun h => a1f (by simpa using hc3) h.2
  refine dv 1 ?_
  refine rlB z2z a6n ?_
  refine dv 3 ?_
  (rw [d4q fX]; exact ⟨_, _, rfl, .agg rfl (.cl rfl (.cl rfl (.cl rfl (.cl rfl (.cl rfl (.cl rfl (.cl rfl .nil))))))) (.cl rfl .nil)⟩)
 have fF : a6c l = true ∧ b4o l s := ⟨fL, a1c.1 (by simpa using hc3)⟩
 refine dv 4 ?_
 refine x0x rfl rfl rfl (b0v ..) (dv 2 fun K K' => ?_)
 refine u9u 1 rfl fun hlen => ?_
 refine dc 7 (aS ?_ ?_)<;>intro j<;>try simp at j
 ·refine dv 6 ?_
  refine rlB z2z a6n ?_
  refine dv 3 ?_
  (rw [c4f fF, e3d (by omega)]; exact ⟨_, _, rfl, .agg rfl (.cl rfl (.cl rfl (.cl rfl (.cl rfl (.cl rfl (.cl rfl (.cl rfl .nil))))))) (.cl rfl .nil)⟩)
 refine dc 5 (aI ?_ ?_)<;>intro j<;>try simp at j
 ·refine dv 1 ?_
  refine rlB z2z a6n ?_
  refine dv 3 ?_
  (rw [c4f fF, e3f (by omega)]; exact ⟨_, _, rfl, .agg rfl (.cl rfl (.cl rfl (.cl rfl (.cl rfl (.cl rfl (.cl rfl (.cl rfl .nil))))))) (.cl rfl .nil)⟩)
 have hlt : same l.done s < s.length := by omega
 obtain ⟨e, he⟩ : ∃ e, s[same l.done s]? = some e := ⟨_, List.getElem?_eq_getElem hlt⟩
 refine dv 5 ?_
 refine u8u (out := .agg (y8y e)) rfl z2z rfl ?_
 refine dv 3 ?_
 (rw [c4f fF, e3g (by omega) he]; exact ⟨_, _, rfl, .agg rfl (.cl rfl (.cl rfl (.cl rfl (.cl rfl (.cl rfl (.cl rfl (.cl rfl .nil))))))) (.cl rfl .nil)⟩)
end
section
theorem b0w (l : List Ou) (x : Ou) (hl : l.length ≤ 1000000000) : Meth Tryz.prog 284 2 [0] [.ptr 0 0 0, .agg (w3w x)] [(0, (0, .box 310 [.ref 1 0, .fn (.func 283) [] []])), (1, (0, .row 141 5 ((l).map w3w)))] (.tup []) [(0, (0, .box 310 [.ref 1 0, .fn (.func 283) [] []])), (1, (0, .row 141 5 ((b8u a4l l x).map w3w)))] := by
 refine mX Tryz.f284 [] 2 3 fun γ => ?_
 refine dv 1 ?_
 refine x8x (id := 2) rfl rfl rfl (dv 7 ?_)
 refine y2y (id := 3) p5p rfl z9z rfl rfl rfl rfl rfl rfl (y7y rfl rfl p5p rfl z9z rfl rfl rfl rfl (by rfl) (z7z _ _ _) (by (simp only [s3s, r0r, r5r, r8r, T141]; omega)) ?_)
 refine dv 9 ?_
 refine w6w (b := 1) rfl rfl (by (simp; done)) (by (simp; omega)) ?_
 refine dv 2 ?_
 refine x5x (ι := Nat × List Ou) (fun i γ1 => [(4, pI (i.1 : Int))]) (fun i γ1 => [(1, ((γ1 1), .row 141 5 ((i.2).map w3w))), (0, ((γ 0), .box 310 [.ref 1 (γ1 1), .fn (.func 283) [] []]))]) (fun i => a9e a4l i.2 i.1 = b8u a4l l x ∧ i.1 < i.2.length ∧ i.2.length = l.length + 1) (fun i => i.1) (y0y 0 rfl Cov.nil) (a0j [2, 3, 4] rfl) (l.length, l ++ [x]) ⟨rfl, by simp, by simp⟩ [0, _] (Cov.cons' (t := 4) rfl (by simp) Cov.nil) x4x rfl fun i γ1 hi => ?_
 obtain ⟨k, m⟩ := i
 obtain ⟨h1, h2, h3⟩ := hi
 dsimp only at h1 h2 h3 ⊢
 refine dc 4 (fun K K' => aS ?_ ?_)<;>intro h<;>try simp at h
 ·have hk : k = 0 := by omega
  subst hk
  have hfin := siftUp_zero.symm.trans h1
  refine dv 1 ?_
  exact ⟨[γ 0, _], rfl, rfl, HE.box rfl rfl (HE.row rfl (by rw [← hfin]) HE.nil)⟩
 obtain ⟨a, ha⟩ := gE m k
 obtain ⟨b, hb⟩ := gE m ((k - 1) / 2)
 have hp : (k - 1) / 2 < k := by omega
 refine dv 4 ?_
 refine w6w (b := 1) rfl rfl (by omega) (by omega) (c8q (b := 2) rfl rfl (by omega) (by omega) (dv 12 fun K K' => ?_))
 refine y3y (j := k) rfl rfl p5p rfl z9z rfl rfl (by omega) ?_
 refine dv 6 ?_
 refine y3y (j := (k - 1) / 2) rfl rfl p5p rfl z9z rfl rfl (by omega) ?_
 refine dv 1 ?_
 refine x0x rfl rfl rfl (a7k _ _) (dc 1 (aI ?_ ?_))<;>intro hc4<;>try simp at hc4
 ·have hfin := (b7i ha hb hc4).symm.trans h1
  refine dv 1 ?_
  exact ⟨[γ 0, _], rfl, rfl, HE.box rfl rfl (HE.row rfl (by rw [← hfin]) HE.nil)⟩
 have hg := hc4
 refine dv 17 ?_
 refine y3y (j := (k - 1) / 2) rfl rfl p5p rfl z9z rfl rfl (by omega) ?_
 refine dv 6 ?_
 refine y3y (j := k) rfl rfl p5p rfl z9z rfl rfl (by omega) ?_
 refine dv 1 ?_
 refine y3y (j := k) rfl rfl p5p rfl z9z rfl rfl (by omega) ?_
 refine u3u (el' := b) rfl rfl z9z rfl rfl rfl ha rfl (a0x _) rfl rfl ?_
 refine y3y (j := (k - 1) / 2) rfl rfl p5p rfl z9z rfl rfl (by rw [List.length_set]; omega) ?_
 refine u3u (el' := a) rfl rfl z9z rfl rfl rfl (by rw [List.getElem?_set_ne (by omega)]; exact hb) rfl (a0x _) rfl rfl ?_
 refine dv 3 ?_
 exact ⟨((k - 1) / 2, sw m k ((k - 1) / 2)), ⟨⟨by rw [← h1, b7h (by omega) ha hb hg], by rw [b0j]; dsimp only; omega, by rw [b0j]; exact h3⟩, (by dsimp only; omega)⟩, [0, _], x6x, x6x, (HE.row rfl (by rw [e2l ha hb]) (HE.box rfl rfl HE.nil)), x4x, rfl⟩
theorem b2d (m : Ou) (r : List Ou) (hl : r.length ≤ 1000000000) : Meth Tryz.prog 307 2 [0] [.ptr 0 0 0] [(0, (0, .box 310 [.ref 1 0, .fn (.func 283) [] []])), (1, (0, .row 141 5 ((m :: r).map w3w)))] (.agg (w3w m)) [(0, (0, .box 310 [.ref 1 0, .fn (.func 283) [] []])), (1, (0, .row 141 5 ((b2q a4l (m :: r)).map w3w)))] := by
 refine s2s p1p (fn := Tryz.f307) (by kernel_rfl) (by kernel_rfl) rfl (O0 := [.agg (w3w m)]) 2 2 (a0g rfl) (by rfl) (by repeat (first | exact BndH.nil | refine BndH.box rfl ?_ | refine BndH.row (v6v fun _ => rfl) ?_)) (by repeat (first | exact BndH.nil | refine BndH.box rfl ?_ | refine BndH.row (v6v fun _ => rfl) ?_)) (by rfl) fun γ => ?_
 show Ex Tryz.prog _ _ [(0, .ptr 0 (γ 0) 0)] [(0, ((γ 0), .box 310 [.ref 1 (γ 1), .fn (.func 283) [] []])), (1, ((γ 1), .row 141 5 ((m :: r).map w3w))), (3, (0, .dead)), (2, (0, .dead))] _
 obtain ⟨T0, hT⟩ : ∃ T0, T0 = ((m :: r).set 0 ((m :: r).getLast (by simp))).take r.length := ⟨_, rfl⟩
 have hres : b2q a4l (m :: r) = a1t a4l T0 0 := by rw [hT]; rfl
 have hTl : T0.length = r.length := by rw [hT]; simp
 have hlast : (m :: r)[(m :: r).length - 1]? = some ((m :: r).getLast (by simp)) := by rw [← List.getLast?_eq_getElem?, List.getLast?_eq_some_getLast]
 refine exR (x2x (id := 2) z9z b8m rfl (exR (q0q rfl (e0x rfl rfl (q2q rfl e0u rfl rfl p5p rfl rfl (y9y rfl p5p rfl rfl ?_))))))
 refine y3y (j := 0) rfl rfl p5p rfl z9z rfl rfl (by simp) ?_
 refine s7s rfl z9z rfl (show (m :: r)[0]? = some m from rfl) rfl rfl ?_
 refine x2x (id := 3) z9z b8m rfl (dv 7 ?_)
 refine w6w (b := 1) rfl rfl (by (simp; done)) (by (simp; omega)) ?_
 refine dv 11 ?_
 refine y3y (j := (m :: r).length - 1) rfl rfl p5p rfl z9z rfl rfl (by simp) ?_
 refine dv 1 ?_
 refine y3y (j := 0) rfl rfl p5p rfl z9z rfl rfl (by simp) ?_
 refine u3u (el' := ((m :: r).getLast (by simp))) rfl rfl z9z rfl rfl rfl (show (m :: r)[0]? = some m from rfl) rfl (a0x _) rfl rfl ?_
 refine dv 7 ?_
 refine d6f p1p (u := (m :: r).length - 1) (ys := T0.map w3w) rfl p5p rfl z9z rfl rfl rfl (by (simp; done)) (by rw [hT, List.map_take]; rfl) ?_
 refine dv 6 ?_
 refine x5x (ι := Nat × List Ou) (fun i γ1 => [(5, pI (i.1 : Int))]) (fun i γ1 => [(1, ((γ1 1), .row 141 5 ((i.2).map w3w))), (0, ((γ 0), .box 310 [.ref 1 (γ1 1), .fn (.func 283) [] []]))]) (fun i => a1t a4l i.2 i.1 = b2q a4l (m :: r) ∧ i.2.length = r.length ∧ i.1 ≤ r.length) (fun i => i.2.length - i.1) (q3q [0, 2, 3, 4] rfl) (a0j [2, 3] rfl) (0, T0) ⟨hres.symm, hTl, by omega⟩ [0, _] x6x x4x rfl fun i γ1 hi => ?_
 obtain ⟨k, t⟩ := i
 obtain ⟨h1, h2, h3⟩ := hi
 dsimp only at h1 h2 h3 ⊢
 refine dv 3 ?_
 refine b7a (a := 2) rfl rfl (by omega) (x7x (b := 1) rfl rfl (by omega) (dc 6 (fun K K' => aI ?_ ?_)))<;>intro h<;>try simp at h
 ·have hfin := (a5z (lt := a4l) (l := t) (k := k) (by omega)).symm.trans h1
  refine dv 4 ?_
  exact ⟨[γ 0, _], rfl, rfl, HE.box rfl rfl (HE.row rfl (by rw [← hfin]) HE.nil)⟩
 have hlt : 2 * k + 1 < t.length := by omega
 refine dv 1 ?_
 refine w8w (ι := Unit) (fun _i γ2 => [(6, pI (a3q a4l t k : Int))]) (fun _i γ2 => []) (fun _i => True) (q3q [0, 2, 3, 4, 5] rfl) (a0j [0, 1, 2, 3] rfl) ?_ fun _i γ2 hi => ?_
 ·refine dv 2 ?_
  refine x7x (b := 1) rfl rfl (by omega) (dc 3 (aS ?_ ?_))<;>intro h<;>try simp at h
  ·have hlt2 : ¬ 2 * k + 2 < t.length := by omega
   refine dv 22 ?_
   exact ⟨(), trivial, [], (Cov.cons' (t := 6) rfl (by rw [e2q (by omega)]) Cov.nil), x6x, x4x, x4x, rfl⟩
  have hlt2 : 2 * k + 1 + 1 < t.length := by omega
  obtain ⟨c1, hc1⟩ := gE t (2 * k + 1 + 1)
  obtain ⟨d1, hd1⟩ := gE t (2 * k + 1)
  refine dv 9 ?_
  refine x7x (b := 1) rfl rfl (by omega) (dv 0 ?_)
  refine y3y (j := 2 * k + 1 + 1) rfl rfl p5p rfl z9z rfl rfl (by omega) ?_
  refine dv 6 ?_
  refine y3y (j := 2 * k + 1) rfl rfl p5p rfl z9z rfl rfl (by omega) ?_
  refine dv 1 ?_
  refine x0x rfl rfl rfl (a7k _ _) (dc 1 (aS ?_ ?_))<;>intro hc4<;>try simp at hc4
  ·try have hl1 := hc4
   refine dv 1 ?_
   exact ⟨(), trivial, [], (Cov.cons' (t := 6) rfl (by rw [e2p hc1 hd1 hl1]) Cov.nil), x6x, x4x, x4x, rfl⟩
  have hl1 := hc4
  refine dv 2 ?_
  refine x7x (b := 1) rfl rfl (by omega) (dv 1 ?_)
  exact ⟨(), trivial, [], (Cov.cons' (t := 6) rfl (by rw [e2o hc1 hd1 hl1]) Cov.nil), x6x, x4x, x4x, rfl⟩
 ·try dsimp only [a9u, a9v]
  have hch := b2n (lt := a4l) t k
  obtain ⟨a, ha⟩ := gE t (a3q a4l t k)
  obtain ⟨b, hb⟩ := gE t k
  refine dv 11 fun K K' => ?_
  refine y3y (j := a3q a4l t k) rfl rfl p5p rfl z9z rfl rfl (by omega) ?_
  refine dv 6 ?_
  refine y3y (j := k) rfl rfl p5p rfl z9z rfl rfl (by omega) ?_
  refine dv 1 ?_
  refine x0x rfl rfl rfl (a7k _ _) (dc 1 (aI ?_ ?_))<;>intro hc7<;>try simp at hc7
  ·have hfin := (b2p ha hb hc7).symm.trans h1
   refine dv 4 ?_
   exact ⟨[γ 0, _], rfl, rfl, HE.box rfl rfl (HE.row rfl (by rw [← hfin]) HE.nil)⟩
  have hg := hc7
  refine dv 17 ?_
  refine y3y (j := a3q a4l t k) rfl rfl p5p rfl z9z rfl rfl (by omega) ?_
  refine dv 6 ?_
  refine y3y (j := k) rfl rfl p5p rfl z9z rfl rfl (by omega) ?_
  refine dv 1 ?_
  refine y3y (j := k) rfl rfl p5p rfl z9z rfl rfl (by omega) ?_
  refine u3u (el' := a) rfl rfl z9z rfl rfl rfl hb rfl (a0x _) rfl rfl ?_
  refine y3y (j := a3q a4l t k) rfl rfl p5p rfl z9z rfl rfl (by rw [List.length_set]; omega) ?_
  refine u3u (el' := b) rfl rfl z9z rfl rfl rfl (by rw [List.getElem?_set_ne (by omega)]; exact ha) rfl (a0x _) rfl rfl ?_
  refine dv 3 ?_
  exact ⟨(a3q a4l t k, sw t (a3q a4l t k) k), ⟨⟨by rw [← h1, b2o (by omega) ha hb hg], by rw [b0j]; exact h2, by dsimp only; omega⟩, (by dsimp only; rw [b0j]; omega)⟩, [0, _], x6x, x6x, (HE.row rfl (by rw [e2l ha hb, List.set_comm _ _ (by omega)]) (HE.box rfl rfl HE.nil)), x4x, rfl⟩
theorem b0a (l : List Ou) (hl : l.length ≤ 1000000000) : Meth Tryz.prog 285 2 [0] [.ptr 0 0 0] [(0, (0, .box 310 [.ref 1 0, .fn (.func 283) [] []])), (1, (0, .row 141 5 ((l).map w3w)))] (.row (.rd true) 141 5 ((a4s a4l l.length l).map w3w)) [(0, (0, .box 310 [.ref 1 0, .fn (.func 283) [] []])), (1, (0, .row 141 5 ((([] : List Ou)).map w3w)))] := by
 refine mX Tryz.f285 [.row (.rd true) 141 5 ((a4s a4l l.length l).map w3w)] 2 3 fun γ => ?_
 refine dv 8 ?_
 refine c8u p1p (id := 2) p5p rfl z9z rfl rfl (by (simp only [s3s, r0r, r5r, r8r, T141]; omega)) (by (unfold maxLen; omega)) rfl ?_
 refine dv 3 fun K K' => ?_
 refine x5x (ι := List Ou × List Ou) (fun i γ1 => [(3, .ref 2 (γ1 2))]) (fun i γ1 => [(1, ((γ1 1), .row 141 5 ((i.1).map w3w))), (2, ((γ1 2), .row 141 5 ((i.2).map w3w))), (0, ((γ 0), .box 310 [.ref 1 (γ1 1), .fn (.func 283) [] []])), (3, ((γ1 3), .dead)), (4, ((γ1 4), .dead))]) (fun i => i.2 ++ a4s a4l i.1.length i.1 = a4s a4l l.length l ∧ i.1.length + i.2.length = l.length) (fun i => i.1.length) (y0y 0 rfl Cov.nil) HE.nil (l, []) ⟨rfl, rfl⟩ [0, _, _, _, _] x6x x4x rfl fun i γ1 hi => ?_
 obtain ⟨ls, o⟩ := i
 obtain ⟨h1, h2⟩ := hi
 dsimp only at h1 h2 ⊢
 refine dc 8 (fun K K' => aS ?_ ?_)<;>intro hc3<;>try simp at hc3
 ·obtain rfl : ls = [] := hc3
  have ho : o = a4s a4l l.length l := by rw [← h1]; simp [a4s]
  subst ho
  refine dv 1 ?_
  refine w5w 3 rfl rfl (fun _ => rfl) ?_
  refine dv 4 ?_
  exact ⟨[γ 0, _], rfl, rfl, x4x⟩
 obtain ⟨m, r, rfl⟩ : ∃ m r, ls = m :: r := by cases ls with | nil => simp at hc3 | cons m r => exact ⟨m, r, rfl⟩
 simp only [r5r] at h2
 refine dv 5 ?_
 refine rlM [0, 1] [_, _] (b2d m r (by omega)) rfl rfl rfl ?_
 refine y2y (id := 3) p5p rfl z9z rfl rfl rfl rfl rfl rfl (y7y rfl rfl p5p rfl z9z rfl rfl rfl rfl (by rfl) (z7z _ _ _) (by (simp only [s3s, r0r, r5r, r8r, T141]; omega)) ?_)
 refine dv 1 ?_
 exact ⟨(b2q a4l (m :: r), o ++ [m]), ⟨⟨by rw [← h1, a9f, List.append_assoc]; rfl, by rw [a9f, List.length_append]; simp only [r5r, r8r] at h2 ⊢; omega⟩, (by dsimp only; rw [a9f]; simp)⟩, [0, _, _, _, _], x6x, x6x, (HE.row rfl rfl (HE.row rfl (by simp) (HE.box rfl rfl (HE.kill rfl (HE.kill rfl HE.nil))))), x4x, rfl⟩
theorem b0x (c : Bool) (l : List Ou) (hl : l.length ≤ 1000000) : a0t Tryz.prog 220 [q7q c l] (q7q true (a0o l)) := by
 refine pX Tryz.f220 [q7q true (a0o l)] 5 ?_
 refine dv 3 ?_
 refine rlB e0u e9k ?_
 refine x2x (id := 0) e0u e9k rfl (dv 7 fun K K' => ?_)
 refine a0f 0 0 4 141 5 rfl rfl rfl rfl rfl ?_
 refine x5x (ι := Nat) (fun i γ1 => [(9, pI (i : Int))]) (fun i γ1 => [(4, ((γ1 4), .row 141 5 ((b2r a4l (l.take i)).map w3w))), (0, ((0 + 1), .box 310 [.ref 4 (γ1 4), .fn (.func 283) [] []])), (1, ((γ1 1), .dead))]) (fun i => i ≤ l.length) (fun i => l.length - i) (q3q [3, 7, 8] rfl) (a0j [2, 3] rfl) 0 (by omega) [0, _, 0, 0, _] x6x (HE.row rfl (by rw [List.take_zero]; try rfl) (HE.box rfl rfl (HE.kill rfl HE.nil))) rfl fun i γ1 hi => ?_
 refine dc 3 (fun K K' => aS ?_ ?_)<;>intro h<;>try simp at h
 ·obtain rfl : i = l.length := by omega
  have hpl : (b2r a4l (l.take l.length)).length ≤ 1000000000 := by rw [a9g, List.length_take]; omega
  refine dv 2 ?_
  refine rlM [0, 4] [_, _] (b0a _ hpl) rfl rfl rfl ?_
  refine dv 2 ?_
  refine x3x rfl ?_ rfl
  exact congrArg (fun l : List Ou => [q7q true l]) (by rw [a9g, List.take_length, d6o ouSTO]; rfl)
 obtain ⟨e, he⟩ := gE l i
 have hpl : (b2r a4l (l.take i)).length ≤ 1000000000 := by rw [a9g, List.length_take]; omega
 refine dv 6 fun K K' => ?_
 refine x2x (id := 1) z9z b8m rfl (dv 3 ?_)
 refine rlM [0, 4] [_, _] (b0w _ e hpl) rfl rfl rfl ?_
 refine dv 1 ?_
 refine x7x (b := 1) rfl rfl (by omega) (dv 1 ?_)
 exact ⟨i + 1, ⟨by omega, by omega⟩, [0, _, 0, 0, _], x6x, x6x, (HE.row rfl (by rw [z8z he, c7q]) (HE.box rfl rfl (HE.kill rfl HE.nil))), x4x, rfl⟩
end
section
theorem a4u (c : Bool) (l : List Ou) (hl : l.length ≤ 1000000) : a0t Tryz.prog 112 [q7q c l] (q7q true (a0o l)) := by
 refine pX Tryz.f112 [q7q true (a0o l)] 6 ?_
 refine dv 3 ?_
 refine y1y (id := 0) p5p rfl z9z rfl (dv 5 fun K K' => ?_)
 refine w5w (l := ([] : List Ou)) (f := w3w) 3 rfl rfl (fun _ => rfl) ?_
 refine x5x (ι := Nat) (fun i γ1 => [(3, q7q true (a0o (l.take i))), (4, pI (i : Int))]) (fun i γ1 => [(1, ((γ1 1), .dead)), (2, ((γ1 2), .dead)), (3, ((γ1 3), .dead)), (4, ((γ1 4), .dead)), (5, ((γ1 5), .dead))]) (fun i => i ≤ l.length) (fun i => l.length - i) (y0y 0 rfl Cov.nil) (w4w 0 rfl HE.nil) 0 (by omega) [0, _, _, _, _, _] (Cov.cons' (t := 3) rfl (by rw [List.take_zero]; rfl) (y0y 4 rfl Cov.nil)) x4x rfl fun i γ1 hi => ?_
 refine dc 6 (fun K K' => aS ?_ ?_)<;>intro h<;>try simp at h
 ·obtain rfl : i = l.length := by omega
  refine dv 5 ?_
  refine x3x rfl ?_ rfl
  exact congrArg (fun l : List Ou => [q7q true l]) (by rw [List.take_length])
 obtain ⟨x, hx⟩ := gE l i
 have hol : (a0o (l.take i)).length ≤ 1000000 := by rw [b5r, List.length_take]; omega
 refine dv 7 fun K K' => ?_
 refine w8w (ι := Nat) (fun k γ2 => [(5, pI (k : Int))]) (fun k γ2 => []) (fun k => k ≤ (a0o (l.take i)).length ∧ (∀ (j : Nat) y, k ≤ j → (a0o (l.take i))[j]? = some y → a4l x y = true) ∧ (∀ y, 0 < k → (a0o (l.take i))[k - 1]? = some y → a4l x y = false)) (q3q [0, 3, 4] rfl) (a0j [0, 1, 2, 3, 4, 5] rfl) ?_ fun k γ2 hi => ?_
 ·refine dv 1 ?_
  refine x5x (ι := Nat) (fun k γ3 => [(5, pI (k : Int))]) (fun k γ3 => []) (fun k => k ≤ (a0o (l.take i)).length ∧ (∀ (j : Nat) y, k ≤ j → (a0o (l.take i))[j]? = some y → a4l x y = true)) (fun k => k) (q3q [0, 3, 4] rfl) (a0j [0, 1, 2, 3, 4, 5] rfl) (a0o (l.take i)).length ⟨Nat.le_refl _, fun j y hj hy => by have := (List.getElem?_eq_some_iff.1 hy).1; omega⟩ [] x6x x4x rfl fun k γ3 hi => ?_
  obtain ⟨k1, k2⟩ := hi
  refine dc 5 (fun K K' => aS ?_ ?_)<;>intro h<;>try simp at h
  ·have k0 : k = 0 := by omega
   refine dv 12 ?_
   exact ⟨k, ⟨k1, k2, fun y2 h0 h2 => by omega⟩, [], x6x, x6x, x4x, x4x, rfl⟩
  have k0 : 0 < k := by omega
  obtain ⟨y, hy⟩ := gE (a0o (l.take i)) (k - 1)
  refine dv 6 ?_
  refine w6w (b := 1) rfl rfl (by omega) (by omega) (dv 2 ?_)
  refine x0x rfl rfl rfl (b6i ..) (dc 1 (aS ?_ ?_))<;>intro hc7<;>try simp at hc7
  ·try have hlt := hc7
   refine dv 1 ?_
   exact ⟨k, ⟨k1, k2, fun y2 h0 h2 => by (rw [hy] at h2; cases h2; exact hlt)⟩, [], x6x, x6x, x4x, x4x, rfl⟩
  try have hlt := hc7
  refine dv 4 ?_
  refine w6w (b := 1) rfl rfl (by omega) (by omega) (dv 1 ?_)
  exact ⟨k - 1, ⟨⟨by omega, fun j y2 hj hy2 => by by_cases hjk : j = k - 1; (subst hjk; rw [hy] at hy2; cases hy2; exact hlt); exact k2 j y2 (by omega) hy2⟩, by omega⟩, [], x6x, x6x, x4x, x4x, rfl⟩
 ·try dsimp only [a9u, a9v]
  obtain ⟨c1, c2, c3⟩ := hi
  have hin := (d4s hx).trans (f1x ouSTO (e3j _) c2 c3 c1)
  refine dv 1 ?_
  refine y1y (id := 1) p5p rfl z9z rfl (dv 2 ?_)
  refine b0i rfl p5p rfl z9z rfl rfl rfl (by omega) (by omega) (by omega) ?_
  refine w2w (zs := ((a0o (l.take i)).take k).map w3w) rfl rfl p5p rfl z9z rfl rfl rfl (z6z (fun _ => rfl) _) (by simp) (by (simp only [s3s, r0r, r5r, r8r, a0p, b3h, T141]; omega)) ?_
  refine dv 4 ?_
  refine y2y (id := 3) p5p rfl z9z rfl rfl rfl rfl rfl rfl ?_
  refine y7y (zs := ((a0o (l.take i)).take k ++ [x]).map w3w) rfl rfl p5p rfl z9z rfl rfl rfl rfl (by rfl) (z7z _ _ _) (by (simp only [s3s, r0r, r5r, r8r, a0p, b3h, T141]; omega)) ?_
  refine dv 2 ?_
  refine b0i rfl p5p rfl z9z rfl rfl rfl (by omega) (by (rw [List.length_map]; omega)) (by (rw [List.length_map]; omega)) ?_
  refine a1w p1p (zs := ((a0o (l.take i)).take k ++ x :: (a0o (l.take i)).drop k).map w3w) rfl rfl p5p rfl z9z rfl rfl rfl (z6z (fun _ => rfl) _) (by simp) (by (simp only [s3s, r0r, r5r, r8r, a0p, b3h, T141]; omega)) (Le.ow_map _ (fun _ => rfl) (fun _ => rfl)) ?_
  refine dv 3 ?_
  refine x7x (b := 1) rfl rfl (by omega) (dv 1 ?_)
  exact ⟨i + 1, ⟨by omega, by omega⟩, [0, _, _, _, _, _], (Cov.cons' (t := 3) rfl (by rw [hin]; rfl) (y0y 4 rfl Cov.nil)), x6x, x4x, x4x, rfl⟩
end
section
theorem c6m (c : Bool) (l : La) : a0t Tryz.prog 31 [.agg (q1q c l)] (.agg (q8q (d5e l))) := by
 refine pX Tryz.f31 [.agg (q8q (d5e l))] 2 ?_
 refine dv 1 ?_
 refine x8x (id := 0) rfl rfl rfl (x2x (id := 1) a2x c6f rfl (dv 3 fun K K' => ?_))
 refine x0x rfl rfl rfl (a4g ..) (dc 1 (aI ?_ ?_))<;>intro hc2<;>try simp at hc2
 ·have fX : ¬ a6c l = true := by simpa using hc2
  refine dv 1 ?_
  refine rlB a2x c6f ?_
  refine dv 2 ?_
  (rw [f5z fX]; exact a6s rfl rfl rfl rfl)
 have fL : a6c l = true := hc2
 have hl1 := (a1i fL).1
 refine dc 7 (fun K K' => aI ?_ ?_)<;>intro hc4<;>try simp at hc4
 ·have h0 : l.done.length = 0 := by (rw [hc4]; rfl)
  refine dv 2 ?_
  refine y9y (out := .agg (q8q l.base)) rfl a2x rfl rfl ?_
  refine dv 2 ?_
  (rw [f0d fL h0]; exact a6s rfl rfl rfl rfl)
 have h1 : 0 < l.done.length := List.length_pos_iff.2 hc4
 obtain ⟨p, hp⟩ := gE l.done (l.done.length - 1)
 refine dv 7 ?_
 refine w6w (b := 1) rfl rfl (by omega) (by omega) (dv 2 ?_)
 refine u8u (out := .agg (q8q p.after)) rfl a2x rfl ?_
 refine dv 2 ?_
 (rw [f0e fL hp]; exact a6s rfl rfl rfl rfl)
theorem b3q (c : Bool) (l : La) (f t : Nat) (hlen : l.done.length ≤ 1000000) (hf : f ≤ 1000000) (ht : t ≤ 1000000) (hb : ∀ p ∈ l.done, p.sends.length ≤ 1000000 ∧ p.outs.length ≤ 1000000) : Meth Tryz.prog 110 1 [] [.agg (q1q c l), .pv (.int .i64 (f : Int)), .pv (.int .i64 (t : Int))] [(0, (0, .dead))] (.agg [pI l.proc, pI l.base.x, pI l.base.y, pI l.base.count, .ref 0 0]) [(0, (0, .row 58 12 (((a2i l f t).done).map (a2r true))))] := by
 refine mX Tryz.f110 [.agg [pI l.proc, pI l.base.x, pI l.base.y, pI l.base.count, .ref 0 0]] 1 10 fun γ => ?_
 refine dv 1 ?_
 refine x8x (id := 1) rfl rfl rfl (x2x (id := 2) a0k a6r rfl (dv 5 ?_))
 refine rlB a0k a6r ?_
 refine x2x (id := 3) a0k a6r rfl (dv 6 fun K K' => ?_)
 refine a0f 3 4 0 58 12 rfl rfl rfl rfl rfl ?_
 refine x5x (ι := Nat) (fun i γ1 => [(8, pI (i : Int))]) (fun i γ1 => [(0, ((γ1 0), .row 58 12 (((l.done.take i).drop f).map (a2r true)))), (3, ((0 + 1), .box 44 [pI l.proc, pI l.base.x, pI l.base.y, pI l.base.count, .ref 0 (γ1 0)])), (4, ((γ1 4), .dead)), (5, ((γ1 5), .dead)), (6, ((γ1 6), .dead)), (7, ((γ1 7), .dead)), (8, ((γ1 8), .dead)), (9, ((γ1 9), .dead)), (10, ((γ1 10), .dead))]) (fun i => f ≤ i ∧ (i = f ∨ (i ≤ t ∧ i ≤ l.done.length))) (fun i => l.done.length - i) (q3q [2, 3, 6, 7] rfl) (a0j [1, 2] rfl) f ⟨Nat.le_refl _, .inl rfl⟩ [_, 0, 0, 0, _, _, _, _, _, _, _] x6x (HE.row rfl (by rw [List.drop_of_length_le (by rw [List.length_take]; omega)]; rfl) (HE.box rfl rfl (HE.kill rfl (HE.kill rfl (HE.kill rfl (HE.kill rfl (HE.kill rfl (HE.kill rfl (HE.kill rfl HE.nil))))))))) rfl fun i γ1 hi => ?_
 obtain ⟨k1, k2⟩ := hi
 refine dc 6 (fun K K' => aS ?_ ?_)<;>intro j<;>try simp at j
 ·refine dv 6 ?_
  have hfin : (l.done.take i).drop f = (l.done.take t).drop f := c9p k1 k2 (by omega)
  refine dv 5 ?_
  exact ⟨[_], rfl, rfl, HE.row rfl (by rw [hfin]; rfl) HE.nil⟩
 refine dc 6 (aS ?_ ?_)<;>intro j<;>try simp at j
 ·have hfin : (l.done.take i).drop f = (l.done.take t).drop f := c9p k1 k2 (by omega)
  refine dv 5 ?_
  exact ⟨[_], rfl, rfl, HE.row rfl (by rw [hfin]; rfl) HE.nil⟩
 obtain ⟨p, hp⟩ := gE l.done i
 have g1 : i < t := by omega
 obtain ⟨hps, hpo⟩ := hb p (List.mem_of_getElem? hp)
 refine dv 9 fun K K' => ?_
 refine x2x (id := 4) a4k c0g rfl (dv 5 ?_)
 refine y9y (out := .agg (y8y p.ev)) rfl z2z rfl rfl ?_
 refine dv 1 ?_
 refine y9y (out := .agg (q8q p.after)) rfl a2x rfl rfl ?_
 refine y1y (id := 5) u4u rfl z2z rfl (dv 2 ?_)
 refine a1w p1p (zs := (p.sends).map y8y) rfl rfl u4u rfl z2z rfl rfl rfl (z6z (fun _ => rfl) _) rfl (by (simp only [s3s, r0r, r5r, r8r, a0p, a2m, b3h, T56]; omega)) (Le.ow_map _ (fun _ => rfl) (fun _ => rfl)) ?_
 refine y1y (id := 7) p5p rfl z9z rfl (dv 2 ?_)
 refine a1w p1p (zs := (p.outs).map w3w) rfl rfl p5p rfl z9z rfl rfl rfl (z6z (fun _ => rfl) _) rfl (by (simp only [s3s, r0r, r5r, r8r, a0p, a2m, b3h, T141]; omega)) (Le.ow_map _ (fun _ => rfl) (fun _ => rfl)) ?_
 refine rlB a4k c0g ?_
 refine y2y (id := 9) a6m rfl a4k rfl rfl rfl rfl rfl rfl ?_
 refine y7y (zs := ((l.done.take i).drop f ++ [p]).map (a2r true)) rfl rfl a6m rfl a4k rfl rfl rfl rfl (by rfl) (z7z _ _ _) (by (simp only [s3s, r0r, r5r, r8r, a0p, a2m, b3h, T58]; omega)) ?_
 refine dv 4 ?_
 refine x7x (b := 1) rfl rfl (by omega) (dv 1 ?_)
 exact ⟨i + 1, ⟨⟨by omega, .inr ⟨by omega, by omega⟩⟩, by omega⟩, [_, 0, 0, 0, _, _, _, _, _, _, _], x6x, x6x, (HE.row rfl (by rw [z8z hp, List.drop_append_of_le_length (by rw [List.length_take]; omega)]) (HE.box rfl rfl (HE.kill rfl (HE.kill rfl (HE.kill rfl (HE.kill rfl (HE.kill rfl (HE.kill rfl (HE.kill rfl HE.nil))))))))), x4x, rfl⟩
theorem c5d (a : Ap) (l : La) (s : List Ev) (hA : e4o a) (hL : a6c l = true) : MethE Tryz.prog 328 0 [.agg (b9g true a), .agg (q1q true l), s1s true s] [] (ι := La × Bool) (fun S' => S'.2 = true → ∃ p, S'.1 = a2w l p ∧ l.done.length < 100 ∧ paB p) (fun S' => []) (fun S' => .tup [.agg (q1q true S'.1), .pv (.bool (S'.2))]) (fun S' => []) := by
 refine mE (ι := La × Bool) Tryz.f328 (fun S' => [.agg (q1q true S'.1), .pv (.bool (S'.2))]) 0 10 fun γ => ?_
 have hb : ∀ r ∈ a.rules, r.ops.length ≤ 1048576 := fun r hr => by obtain ⟨i, hi⟩ := List.getElem?_of_mem hr; have := (hA.2 i r hi).2.1.2.1; omega
 have hlb := f1u hL
 refine dv 1 ?_
 refine x8x (id := 0) rfl rfl rfl (x8x (id := 1) rfl rfl rfl (x2x (id := 2) a0k a6r rfl (dv 4 ?_)))
 refine x0x rfl rfl rfl (b5f true true l s) (dv 3 ?_)
 refine x2x (id := 3) z2z a6n rfl (dc 7 (fun K K' => aS ?_ ?_))<;>intro hg2<;>try simp at hg2
 ·refine dv 11 fun K K' => ?_
  refine x0x rfl rfl rfl (a4g ..) (dc 1 (aI ?_ ?_))<;>intro hc8<;>try simp at hc8
  ·exact absurd hL (by simpa using hc8)
  refine dv 6 ?_
  refine x0x rfl rfl rfl (a6g true l hlb) (dv 2 ?_)
  skip
  refine dv 1 ?_
  exact ⟨(l, false), (by intro h; simp at h), [], rfl, rfl, x4x⟩
 have hok : (b3w l s).2 = true := hg2
 refine dv 1 ?_
 refine rlB a5u b6a ?_
 refine dv 0 ?_
 refine rlB a5u b6a ?_
 refine dv 0 ?_
 refine rlB a5u b6a ?_
 refine dv 0 ?_
 refine a0b (id := 4) c8l rfl a5u rfl rfl rfl rfl (.val rfl rfl (.val rfl rfl (.val rfl rfl (.val rfl rfl .nil)))) rfl (a0g rfl) (a0g rfl) (a0g rfl) rfl rfl ?_
 refine dv 0 ?_
 refine b2m rfl rfl rfl (.ref rfl (e5n a) .nil) (b0m false (f3v a) (by intro x hx; simp only [f3v, List.mem_cons, List.not_mem_nil, or_false] at hx; rcases hx with rfl | rfl | rfl | rfl <;> first | exact hb | (intro r hr; cases hr))) (.pv _) ?_
 refine dc 2 (aI ?_ ?_)<;>intro j<;>try simp at j
 ·refine dv 3 fun K K' => ?_
  refine x0x rfl rfl rfl (a4g ..) (dc 1 (aI ?_ ?_))<;>intro hc5<;>try simp at hc5
  ·exact absurd hL (by simpa using hc5)
  refine dv 6 ?_
  refine x0x rfl rfl rfl (a6g true l hlb) (dv 2 ?_)
  skip
  refine dv 1 ?_
  exact ⟨(l, false), (by intro h; simp at h), [], rfl, rfl, x4x⟩
 have hroom := e5m hok
 refine dv 1 ?_
 refine c9z 4 (b4t p1p 0 4 rfl rfl ?_)
 refine dv 2 ?_
 refine x0x rfl rfl rfl (c6m true l) (dv 1 ?_)
 refine b4t p1p 9 1 rfl rfl ?_
 refine x2x (id := 5) a2x c6f rfl (b4v c3d (by rfl) [] [] (d0k a (d5e l) (b3w l s).1 hb) rfl rfl rfl rfl (by decide) rfl rfl (by repeat (exact InH.nil)) (fun _ => (by (simp only [pI, a1z, a2b, b9v, gl, nx, a7c, Nat.beq]; rfl))) (fun _ => (by (simp only [pI, a1z, a2b, b9v, gl, nx, a7c, Nat.beq]; rfl))) ⟨⟨0, 0, 0⟩, [], []⟩ ⟨Nat.zero_le _, Nat.zero_le _, fun q h => by cases h⟩ fun r hr => ?_)
 obtain ⟨r1, r2, r3⟩ := hr
 refine b4u p1p 5 4 rfl rfl ?_
 refine dv 4 ?_
 refine b4u p1p 10 3 rfl rfl ?_
 refine dv 3 ?_
 refine c1t (by kernel_rfl) ?_
 refine dv 5 ?_
 refine rlM [9] [_] (b3q true l 0 l.done.length hlb.1 (by omega) hlb.1 hlb.2) rfl rfl rfl ?_
 refine x2x (id := 6) a0k a6r rfl (dv 1 ?_)
 rw [b7j]
 refine dv 6 ?_
 refine x0x rfl rfl rfl (a1s true r.sends (by omega)) ?_
 refine dv 1 ?_
 refine x0x rfl rfl rfl (a4u true r.outs (by omega)) ?_
 refine rlB a4k c0g ?_
 refine y2y (id := 7) a6m rfl a4k rfl rfl rfl rfl rfl rfl ?_
 refine y7y (zs := (l.done ++ [(⟨(b3w l s).1, r.s, z5z r.sends, a0o r.outs⟩ : Pa)]).map (a2r true)) rfl rfl a6m rfl a4k rfl rfl rfl rfl (by rfl) (z7z (a2r true) l.done (⟨(b3w l s).1, r.s, z5z r.sends, a0o r.outs⟩ : Pa)) (by (simp only [s3s, r0r, r5r, r8r, a0p, a2m, b3h, T58]; omega)) ?_
 refine dv 6 ?_
 refine v5v (b := a7g true (l.done ++ [(⟨(b3w l s).1, r.s, z5z r.sends, a0o r.outs⟩ : Pa)])) 2 4 rfl rfl rfl (.ref rfl (Le.ow_map _ (fun _ => rfl) (fun _ => rfl)) .nil) rfl rfl rfl rfl ?_
 refine dv 1 ?_
 exact ⟨(a2w l (⟨(b3w l s).1, r.s, z5z r.sends, a0o r.outs⟩ : Pa), true), (fun _ => ⟨(⟨(b3w l s).1, r.s, z5z r.sends, a0o r.outs⟩ : Pa), rfl, hroom, f3j r1 r2 r3⟩), [], rfl, rfl, x4x⟩
theorem c6n (n : Nd) (q : Int) (hl4 : n.lanes.length ≤ 1000000) : MethE Tryz.prog 327 0 [.agg (u2u true n), .pv (.int .i64 q)] [] (ι := Int) (fun S' => S' = -1 ∨ ∃ (i : Nat) (l : La), S' = (i : Int) ∧ n.lanes[i]? = some l ∧ l.proc = q) (fun S' => []) (fun S' => .pv (.int .i64 S')) (fun S' => []) := by
 refine mE (ι := Int) Tryz.f327 (fun S' => [.pv (.int .i64 S')]) 0 1 fun γ => ?_
 refine dv 1 ?_
 refine x8x (id := 0) rfl rfl rfl (dv 5 fun K K' => ?_)
 refine x5x (ι := Nat) (fun i γ1 => [(5, pI (i : Int))]) (fun i γ1 => []) (fun i => i ≤ n.lanes.length) (fun i => n.lanes.length - i) (q3q [1, 2] rfl) (w4w 0 rfl HE.nil) 0 (by omega) [] x6x x4x rfl fun i γ1 hi => ?_
 refine dc 7 (fun K K' => aS ?_ ?_)<;>intro j<;>try simp at j
 ·refine dv 4 ?_
  exact ⟨-1, .inl rfl, [], rfl, rfl, x4x⟩
 obtain ⟨l, hl⟩ := gE n.lanes i
 refine dc 12 (fun K K' => aI ?_ ?_)<;>intro hc5<;>try simp at hc5
 ·have hq : l.proc = q := hc5
  refine dv 4 ?_
  exact ⟨(i : Int), .inr ⟨i, l, rfl, hl, hq⟩, [], rfl, rfl, x4x⟩
 refine dv 3 ?_
 refine x7x (b := 1) rfl rfl (by omega) (dv 1 ?_)
 exact ⟨i + 1, ⟨by omega, by omega⟩, [], x6x, x6x, x4x, x4x, rfl⟩
end
section
theorem b5g (id : Int) : a0t Tryz.prog 147 [.pv (.int .i64 id)] (.row (.rd true) 44 5 ((q6q id 4).map fun p => q1q true (b4k p))) := by
 refine pX Tryz.f147 [.row (.rd true) 44 5 ((q6q id 4).map fun p => q1q true (b4k p))] 3 ?_
 have hpl := fun k => a6b id k
 refine dv 3 ?_
 refine y1y (id := 0) a8c rfl a0k rfl (dv 5 fun K K' => ?_)
 refine x5x (ι := Nat) (fun i γ1 => [(3, .ref 0 (γ1 0)), (4, pI (i : Int))]) (fun i γ1 => [(0, ((γ1 0), .row 44 5 ((q6q id i).map e3w))), (1, ((γ1 1), .dead)), (2, ((γ1 2), .dead))]) (fun i => i ≤ 4) (fun i => 4 - i) (y0y 0 rfl Cov.nil) HE.nil 0 (by omega) [_, _, _] x6x x4x rfl fun i γ1 hi => ?_
 refine dc 4 (fun K K' => aS ?_ ?_)<;>intro h<;>try simp at h
 ·refine dv 5 ?_
  refine e6r rfl rfl e3x ?_
  have : i = 4 := by omega
  rw [this]
 refine dv 5 fun K K' => ?_
 refine x0x rfl rfl rfl (a0s ..) (dc 2 (aS ?_ ?_))<;>intro h<;>try simp at h
 ·refine dv 3 ?_
  refine u1u rfl rfl rfl (dv 1 ?_)
  exact ⟨i + 1, ⟨by omega, by omega⟩, [_, _, _], (y0y 3 rfl (Cov.cons' (t := 4) rfl (by rw [x9x (by omega) (by omega)]; rfl) Cov.nil)), x6x, (HE.row rfl (by simp only [a8w]; rw [if_neg (by assumption)]) (HE.kill rfl (HE.kill rfl HE.nil))), x4x, rfl⟩
 refine dv 3 ?_
 refine rlB a0k a6r ?_
 refine y2y (id := 1) a8c rfl a0k rfl rfl rfl rfl rfl rfl ?_
 have := hpl i
 refine y7y (zs := (q6q id i ++ [(i : Int)]).map e3w) rfl rfl a8c rfl a0k rfl rfl rfl rfl (by rfl) (z7z _ _ _) (by (simp only [s3s, r0r, r5r, r8r, a0p, a2m, T44]; omega)) ?_
 refine dv 3 ?_
 refine u1u rfl rfl rfl (dv 1 ?_)
 exact ⟨i + 1, ⟨by omega, by omega⟩, [_, _, _], (y0y 3 rfl (Cov.cons' (t := 4) rfl (by rw [x9x (by omega) (by omega)]; rfl) Cov.nil)), x6x, (HE.row rfl (by simp only [a8w]; rw [if_pos (by assumption)]) (HE.kill rfl (HE.kill rfl HE.nil))), x4x, rfl⟩
theorem b7t (c : Bool) (l : La) : a0t Tryz.prog 110 [.agg (q1q c l), .pv (.int .i64 0), .pv (.int .i64 0)] (.agg (q1q true (r3r l))) := by
 refine pX Tryz.f110 [.agg (q1q true (r3r l))] 10 ?_
 refine dv 1 ?_
 refine x8x (id := 0) rfl rfl rfl (x2x (id := 1) a0k a6r rfl (dv 5 ?_))
 refine rlB a0k a6r ?_
 refine x2x (id := 2) a0k a6r rfl (dv 6 fun K K' => ?_)
 refine x5x (ι := Nat) (fun i γ1 => [(8, pI 0)]) (fun i γ1 => [(3, ((γ1 3), .dead)), (4, ((γ1 4), .dead)), (5, ((γ1 5), .dead)), (6, ((γ1 6), .dead)), (7, ((γ1 7), .dead)), (8, ((γ1 8), .dead)), (9, ((γ1 9), .dead))]) (fun i => True) (fun i => 0) (q3q [2, 3, 6, 7] rfl) (a0j [0, 1, 2] rfl) 0 trivial [0, 0, 0, _, _, _, _, _, _, _] x6x x4x rfl fun i γ1 hi => ?_
 refine dv 6 fun K K' => ?_
 refine d3o rfl rfl (fun hg3 => ?_) (fun hg3 => ?_)
 ·simp at hg3
 try simp at hg3
 refine dv 11 ?_
 exact ⟨_, _, rfl, .agg rfl (.cl rfl (.cl rfl (.cl rfl (.cl rfl (.le rfl .nil .nil))))) .nil⟩
theorem c5e (c : Bool) (n : Nd) (hl : n.lanes.length ≤ 1000000000) (hk : n.kept.length ≤ 1000000000) (ho : n.outs.length ≤ 1000000000) : a0t Tryz.prog 155 [.agg (u2u c n)] (.agg (u2u true (a2g n))) := by
 refine pX Tryz.f155 [.agg (u2u true (a2g n))] 16 ?_
 refine dv 1 ?_
 refine x8x (id := 0) rfl rfl rfl (x2x (id := 1) u6u p9p rfl (dv 9 ?_))
 refine y1y (id := 2) u4u rfl z2z rfl (dv 2 ?_)
 refine w2w (zs := n.kept.map y8y) rfl rfl u4u rfl z2z rfl rfl rfl (z6z (fun _ => rfl) _) rfl (by (simp only [s3s, r0r, r5r, r8r, a0p, a2m, T56]; omega)) ?_
 refine y1y (id := 4) p5p rfl z9z rfl (dv 2 ?_)
 refine w2w (zs := n.outs.map w3w) rfl rfl p5p rfl z9z rfl rfl rfl (z6z (fun _ => rfl) _) rfl (by (simp only [s3s, r0r, r5r, r8r, a0p, a2m, T141]; omega)) ?_
 refine dv 2 ?_
 refine rlB u6u p9p ?_
 refine x2x (id := 6) u6u p9p rfl (dv 5 fun K K' => ?_)
 refine a0f 6 4 13 44 5 rfl rfl rfl rfl rfl ?_
 refine x5x (ι := Nat) (fun i γ1 => [(4, pI (i : Int))]) (fun i γ1 => [(13, ((γ1 13), .row 44 5 (((n.lanes.take i).map r3r).map (q1q true)))), (6, ((0 + 1), .box 65 [pI n.id, .pv (.bool n.up), pI n.inc, pI n.g, .ref 13 (γ1 13), .ref 2 2, .ref 4 2, pI n.led, pI 0, .pv (.slice none 0 0), .pv (.slice none 0 0), pI 0, pI 41])), (7, ((γ1 7), .dead)), (8, ((γ1 8), .dead))]) (fun i => i ≤ n.lanes.length) (fun i => n.lanes.length - i) (q3q [1, 2, 3] rfl) (a0j [0, 1, 2, 3, 4, 5, 9, 10, 11, 12, 14, 15] rfl) 0 (by omega) [0, 0, 0, 0, 0, 0, 0, _, _, 0, 0, 0, 0, _] x6x (HE.row rfl (by rw [List.take_zero]; rfl) (HE.box rfl rfl (HE.kill rfl (HE.kill rfl HE.nil)))) rfl fun i γ1 hi => ?_
 refine dc 7 (fun K K' => aI ?_ ?_)<;>intro h<;>try simp at h
 ·refine dv 9 fun K K' => ?_
  obtain ⟨a, ha⟩ := gE n.lanes i
  refine dv 2 ?_
  refine x0x rfl rfl rfl (b7t c a) (y2y (id := 7) a8c rfl a0k rfl rfl rfl rfl rfl rfl ?_)
  refine y7y (zs := ((n.lanes.take i).map r3r ++ [r3r a]).map (q1q true)) rfl rfl a8c rfl a0k rfl rfl rfl rfl (by rfl) (z7z _ _ _) (by (simp only [s3s, r0r, r5r, r8r, a0p, a2m, T44]; omega)) ?_
  refine dv 4 ?_
  refine u1u rfl rfl rfl (dv 1 ?_)
  exact ⟨i + 1, ⟨by omega, by omega⟩, [0, 0, 0, 0, 0, 0, 0, _, _, 0, 0, 0, 0, _], (Cov.cons' (t := 4) rfl (by rw [x9x (by omega) (by omega)]; rfl) Cov.nil), x6x, (HE.row rfl (by simp only [z8z ha, List.map_append, List.map_cons, List.map_nil]) (HE.box rfl rfl (HE.kill rfl (HE.kill rfl HE.nil)))), x4x, rfl⟩
 obtain rfl : i = n.lanes.length := by omega
 refine dv 5 fun K K' => ?_
 refine a0f 6 9 14 190 3 rfl rfl rfl rfl rfl (a0f 6 10 15 3 1 rfl rfl rfl rfl rfl ?_)
 refine x5x (ι := Nat) (fun i γ2 => [(5, pI (i : Int))]) (fun i γ2 => [(14, ((γ2 14), .row 190 3 ((List.range i).map fun _ => b3o))), (15, ((γ2 15), .row 3 1 ((List.range i).map fun _ => a3i 0))), (6, ((0 + 1), .box 65 [pI n.id, .pv (.bool n.up), pI n.inc, pI n.g, .ref 13 (γ1 13), .ref 2 2, .ref 4 2, pI n.led, pI 0, .ref 14 (γ2 14), .ref 15 (γ2 15), pI 0, pI 41])), (9, ((γ2 9), .dead)), (10, ((γ2 10), .dead)), (11, ((γ2 11), .dead)), (12, ((γ2 12), .dead))]) (fun i => i ≤ 3) (fun i => 3 - i) (q3q [2, 3] rfl) (a0j [0, 1, 2, 3, 4, 5, 7, 8, 13] rfl) 0 (by omega) [0, 0, 0, 0, 0, 0, 0, 0, 0, _, _, _, _, 0, _, _] x6x x4x rfl fun i γ2 hi => ?_
 refine dc 4 (fun K K' => aS ?_ ?_)<;>intro h<;>try simp at h
 ·obtain rfl : i = 3 := by omega
  rw [List.take_length]
  refine dv 5 ?_
  exact ⟨_, _, rfl, .agg rfl (.cl rfl (.cl rfl (.cl rfl (.cl rfl (.ref rfl (Le.ow_map _ (fun _ => rfl) (fun _ => rfl)) (.ref rfl (Le.ow_map _ (fun _ => rfl) (fun _ => rfl)) (.ref rfl (Le.ow_map _ (fun _ => rfl) (fun _ => rfl)) (.cl rfl (.cl rfl (.ref rfl (Le.ow_map2 (f := fun _ => b3o) (f' := fun _ => a2l true vi0) (List.range 3) (fun _ => rfl) (fun _ => .cons (.cl rfl) (.cons (.cl rfl) (.cons .nil .nil)))) (.ref rfl (Le.ow_map (f := fun _ => a3i 0) (List.range 3) (fun _ => rfl) (fun _ => rfl)) (.cl rfl (.cl rfl .nil))))))))))))) .nil⟩
 refine dv 6 fun K K' => ?_
 refine rlB s5s a6q ?_
 refine y2y (id := 9) a9w rfl s5s rfl rfl rfl rfl rfl rfl ?_
 refine y7y (zs := (List.range i).map (fun _ => b3o) ++ [b3o]) rfl rfl a9w rfl s5s rfl rfl rfl rfl (by rfl) rfl (by (simp only [s3s, r0r, r5r, r8r, a0p, a2m, T190]; omega)) ?_
 refine dv 5 ?_
 refine b1m (id := 11) a0l rfl s4s rfl rfl rfl rfl rfl ?_
 refine y7y (zs := (List.range i).map (fun _ => a3i 0) ++ [a3i 0]) rfl rfl a0l rfl s4s rfl rfl rfl rfl (by rfl) rfl (by (simp only [s3s, r0r, r5r, r8r, a0p, a2m, T3]; omega)) ?_
 refine dv 4 ?_
 refine u1u rfl rfl rfl (dv 1 ?_)
 exact ⟨i + 1, ⟨by omega, by omega⟩, [0, 0, 0, 0, 0, 0, 0, 0, 0, _, _, _, _, 0, _, _], (Cov.cons' (t := 5) rfl (by rw [x9x (by omega) (by omega)]; rfl) Cov.nil), x6x, (HE.row rfl (by rw [List.range_succ, List.map_append]; rfl) (HE.row rfl (by rw [List.range_succ, List.map_append]; rfl) (HE.box rfl rfl (HE.kill rfl (HE.kill rfl (HE.kill rfl (HE.kill rfl HE.nil))))))), x4x, rfl⟩
theorem c1x (id : Int) : a0t Tryz.prog 89 [.pv (.int .i64 id)] (.agg (u2u true (a2f id))) := by
 refine pX Tryz.f89 [.agg (u2u true (a2f id))] 5 ?_
 have hpl := a6b id 4
 refine dv 1 ?_
 refine x2x (id := 0) u6u p9p rfl (dv 3 fun K K' => ?_)
 refine x0x rfl rfl rfl (z3z ..) (dc 1 (aI ?_ ?_))<;>intro hc2<;>try simp at hc2
 ·have hns : a2f id = nd0 := if_neg (by omega)
  refine dv 1 ?_
  refine rlB u6u p9p ?_
  refine dv 2 ?_
  exact ⟨_, _, rfl, .agg rfl (by rw [hns]; exact .cl rfl (.cl rfl (.cl rfl (.cl rfl (.le rfl .nil (.le rfl .nil (.le rfl .nil (.cl rfl (.cl rfl (.le rfl .nil (.le rfl .nil (.cl rfl (.cl rfl .nil))))))))))))) .nil⟩
 have hin : 0 ≤ id ∧ id ≤ 2 := hc2
 have hns : a2f id = ⟨id, true, 1, 0, (q6q id 4).map b4k, z5z ((q6q id 4).map a1o), [], 0, 1, [vi0, vi0, vi0], [0, 0, 0], 0, 41⟩ := if_pos hin
 have hnb : ({ a2g ⟨id, true, 1, 0, (q6q id 4).map b4k, (q6q id 4).map a1o, [], 0, 0, [], [], 0, 0⟩ with version := 1 } : Nd) = a2f id := by rw [hns, c3v hin]; simp only [a2g, List.map_map]; rfl
 refine dv 4 ?_
 refine x0x rfl rfl rfl (b5g ..) (rlB u6u p9p ?_)
 refine x2x (id := 1) u6u p9p rfl (dv 5 fun K K' => ?_)
 refine a0f 1 5 4 56 7 rfl rfl rfl rfl rfl ?_
 refine x5x (ι := Nat) (fun i γ1 => [(4, pI (i : Int))]) (fun i γ1 => [(4, ((γ1 4), .row 56 7 ((((q6q id 4).take i).map a1o).map y8y))), (1, ((0 + 1), .box 65 [pI id, .pv (.bool true), pI 1, pI 0, .row (.rd true) 44 5 ((q6q id 4).map fun p => q1q true (b4k p)), .ref 4 (γ1 4), .pv (.slice none 0 0), pI 0, pI 0, .pv (.slice none 0 0), .pv (.slice none 0 0), pI 0, pI 0])), (2, ((γ1 2), .dead)), (3, ((γ1 3), .dead))]) (fun i => i ≤ (q6q id 4).length) (fun i => (q6q id 4).length - i) (q3q [2, 3] rfl) (w4w 0 rfl HE.nil) 0 (by omega) [0, 0, _, _, _] x6x (HE.row rfl (by rw [List.take_zero]; rfl) (HE.box rfl rfl (HE.kill rfl (HE.kill rfl HE.nil)))) rfl fun i γ1 hi => ?_
 refine dc 7 (fun K K' => aS ?_ ?_)<;>intro h<;>try simp at h
 ·obtain rfl : i = (q6q id 4).length := by omega
  rw [List.take_length]
  refine dv 1 ?_
  refine v5v (b := s1s true ((q6q id 4).map a1o)) 1 5 rfl rfl rfl (.ref rfl (Le.ow_map _ (fun _ => rfl) (fun _ => rfl)) .nil) rfl rfl rfl rfl ?_
  refine v5v (b := q7q true []) 1 6 rfl rfl rfl (.le rfl .nil .nil) rfl rfl rfl rfl ?_
  refine v5v (b := c1r true []) 1 9 rfl rfl rfl (.le rfl .nil .nil) rfl rfl rfl rfl ?_
  refine v5v (b := a4n true []) 1 10 rfl rfl rfl (.le rfl .nil .nil) rfl rfl rfl rfl ?_
  rw [show (AV.row (.rd true) 44 5 ((q6q id 4).map fun p => q1q true (b4k p))) = b9w true ((q6q id 4).map b4k) from by rw [b9w, List.map_map]; rfl]
  refine dv 2 ?_
  refine x0x rfl rfl rfl (c5e true ⟨id, true, 1, 0, (q6q id 4).map b4k, (q6q id 4).map a1o, [], 0, 0, [], [], 0, 0⟩ (by rw [List.length_map]; omega) (by rw [List.length_map]; omega) (by simp)) ?_
  refine dv 8 ?_
  exact a6s (cs := u2u true { a2g ⟨id, true, 1, 0, (q6q id 4).map b4k, (q6q id 4).map a1o, [], 0, 0, [], [], 0, 0⟩ with version := 1 }) rfl (by rw [hnb]) rfl rfl
 obtain ⟨p, hp⟩ := gE (q6q id 4) i
 refine dv 12 fun K K' => ?_
 refine x0x rfl rfl rfl (c4z ..) (y2y (id := 2) u4u rfl z2z rfl rfl rfl rfl rfl rfl ?_)
 refine y7y (zs := (((q6q id 4).take i).map a1o ++ [a1o p]).map y8y) rfl rfl u4u rfl z2z rfl rfl rfl rfl (by rfl) (z7z _ _ _) (by (simp only [s3s, r0r, r5r, r8r, a0p, a2m, T56]; omega)) ?_
 refine dv 4 ?_
 refine u1u rfl rfl rfl (dv 1 ?_)
 exact ⟨i + 1, ⟨by omega, by omega⟩, [0, 0, _, _, _], (Cov.cons' (t := 4) rfl (by rw [x9x (by omega) (by omega)]; rfl) Cov.nil), x6x, (HE.row rfl (by simp only [z8z hp, List.map_append, List.map_cons, List.map_nil]) (HE.box rfl rfl (HE.kill rfl (HE.kill rfl HE.nil)))), x4x, rfl⟩
end
section
theorem c1y (c : Bool) (n : Nd) : a0t Tryz.prog 233 [.agg (u2u c n)] (.pv (.bool (decide (a9i n)))) := by
 refine pX Tryz.f233 [.pv (.bool (decide (a9i n)))] 1 ?_
 refine dv 1 ?_
 refine x8x (id := 0) rfl rfl rfl (dv 4 ?_)
 refine x0x rfl rfl rfl (b9i ..) (dc 1 (aS ?_ ?_))<;>intro u<;>try simp at u
 ·refine dv 30 ?_
  refine x3x rfl ?_ rfl
  exact kF (by unfold a9i; omega)
 refine dv 2 ?_
 refine x0x rfl rfl rfl (v7v ..) (dc 2 (aS ?_ ?_))<;>intro u<;>try simp at u
 ·refine dv 25 ?_
  refine x3x rfl ?_ rfl
  exact kF (by unfold a9i; omega)
 refine dv 2 ?_
 refine x0x rfl rfl rfl (v7v ..) (dc 2 (aS ?_ ?_))<;>intro u<;>try simp at u
 ·refine dv 20 ?_
  refine x3x rfl ?_ rfl
  exact kF (by unfold a9i; omega)
 refine dv 2 ?_
 refine x0x rfl rfl rfl (v7v ..) (dc 2 (aS ?_ ?_))<;>intro u<;>try simp at u
 ·refine dv 15 ?_
  refine x3x rfl ?_ rfl
  exact kF (by unfold a9i; omega)
 refine dv 2 ?_
 refine x0x rfl rfl rfl (v7v ..) (dc 2 (aS ?_ ?_))<;>intro u<;>try simp at u
 ·refine dv 10 ?_
  refine x3x rfl ?_ rfl
  exact kF (by unfold a9i; omega)
 refine dv 2 ?_
 refine x0x rfl rfl rfl (v7v ..) (dc 2 (aS ?_ ?_))<;>intro u<;>try simp at u
 ·refine dv 5 ?_
  refine x3x rfl ?_ rfl
  exact kF (by unfold a9i; omega)
 refine dv 2 ?_
 refine x0x rfl rfl rfl (v7v ..) (dv 3 ?_)
 refine x3x rfl ?_ rfl
 exact congrArg (fun b : Bool => [AV.pv (.bool b)]) (decide_eq_decide.2 (by unfold a9i; omega))
theorem u7u  : a0t Tryz.prog 143 [] (.pv (.int .i64 9999)) := by
 refine pX Tryz.f143 [.pv (.int .i64 9999)] 0 ?_
 refine dv 5 ?_
 exact x3x rfl rfl rfl
theorem b3r (c : Bool) (v : Vi) : a0t Tryz.prog 168 [.agg (a2l c v)] (.pv (.bool (kb (d6r v)))) := by
 refine pX Tryz.f168 [.pv (.bool (kb (d6r v)))] 1 ?_
 refine dv 1 ?_
 refine x8x (id := 0) rfl rfl rfl (dv 4 ?_)
 refine x0x rfl rfl rfl (u7u ..) (x0x rfl rfl rfl (z3z ..) (dc 1 (aS ?_ ?_)))<;>intro u<;>try simp at u
 ·refine dv 12 ?_
  refine x3x rfl ?_ rfl
  exact congrArg (fun b : Bool => [AV.pv (.bool b)]) (a5o (fun h => by obtain ⟨q1, q2, q3⟩ := h; omega))
 refine dv 2 ?_
 refine x0x rfl rfl rfl (u7u ..) (dv 0 ?_)
 refine x0x rfl rfl rfl (z3z ..) (dc 2 (aS ?_ ?_))<;>intro u<;>try simp at u
 ·refine dv 6 ?_
  refine x3x rfl ?_ rfl
  exact congrArg (fun b : Bool => [AV.pv (.bool b)]) (a5o (fun h => by obtain ⟨q1, q2, q3⟩ := h; omega))
 refine dv 2 ?_
 refine x0x rfl rfl rfl (a4f ..) (dv 0 ?_)
 refine x0x rfl rfl rfl (a4c ..) (dv 3 ?_)
 refine x3x rfl ?_ rfl
 exact congrArg (fun b : Bool => [AV.pv (.bool b)]) (f1s ⟨fun h => ⟨by omega, by omega, h⟩, fun h => h.2.2⟩)
theorem c5f (c : Bool) (n : Nd) : a0t Tryz.prog 146 [.agg (u2u c n)] (.pv (.bool (kb (c9l n)))) := by
 refine pX Tryz.f146 [.pv (.bool (kb (c9l n)))] 1 ?_
 refine dv 1 ?_
 refine x8x (id := 0) rfl rfl rfl (dc 8 (fun K K' => aS ?_ ?_))<;>intro u<;>try simp at u
 ·refine dv 28 ?_
  refine x3x rfl ?_ rfl
  exact congrArg (fun b : Bool => [AV.pv (.bool b)]) (a5o (fun h => by obtain ⟨q1, q2, q3, q4, q5, q6⟩ := h; omega))
 refine dc 6 (aS ?_ ?_)<;>intro u<;>try simp at u
 ·refine dv 22 ?_
  refine x3x rfl ?_ rfl
  exact congrArg (fun b : Bool => [AV.pv (.bool b)]) (a5o (fun h => by obtain ⟨q1, q2, q3, q4, q5, q6⟩ := h; omega))
 refine dv 2 ?_
 refine x0x rfl rfl rfl (u7u ..) (dv 0 ?_)
 refine x0x rfl rfl rfl (z3z ..) (dc 3 (aS ?_ ?_))<;>intro u<;>try simp at u
 ·refine dv 15 ?_
  refine x3x rfl ?_ rfl
  exact congrArg (fun b : Bool => [AV.pv (.bool b)]) (a5o (fun h => by obtain ⟨q1, q2, q3, q4, q5, q6⟩ := h; omega))
 refine dv 2 ?_
 refine x0x rfl rfl rfl (u7u ..) (dv 0 ?_)
 refine x0x rfl rfl rfl (z3z ..) (dc 3 (aS ?_ ?_))<;>intro u<;>try simp at u
 ·refine dv 8 ?_
  refine x3x rfl ?_ rfl
  exact congrArg (fun b : Bool => [AV.pv (.bool b)]) (a5o (fun h => by obtain ⟨q1, q2, q3, q4, q5, q6⟩ := h; omega))
 refine dv 2 ?_
 refine x0x rfl rfl rfl (z3z ..) (dc 2 (aI ?_ ?_))<;>intro u<;>try simp at u
 ·refine dv 3 ?_
  refine x3x rfl ?_ rfl
  exact congrArg (fun b : Bool => [AV.pv (.bool b)]) (a5o (fun h => by obtain ⟨q1, q2, q3, q4, q5, q6⟩ := h; omega))
 have hL : n.views.length = 3 ∧ n.known.length = 3 ∧ (0 ≤ n.version ∧ n.version ≤ 9999) ∧ (0 ≤ n.round ∧ n.round ≤ 9999) ∧ (0 ≤ n.low ∧ n.low ≤ 41) := by omega
 refine dv 5 fun K K' => ?_
 refine x5x (ι := Nat) (fun i γ1 => [(3, pI (i : Int))]) (fun i γ1 => []) (fun i => i ≤ 3 ∧ d0v n.views (fun j v => ∀ k, n.known[j]? = some k → d6r v ∧ 0 ≤ k ∧ k ≤ 41) i) (fun i => 3 - i) (y0y 1 rfl Cov.nil) (w4w 0 rfl HE.nil) 0 ⟨by omega, a1u⟩ [] x6x x4x rfl fun i γ1 hi => ?_
 obtain ⟨h1, h2⟩ := hi
 refine dc 4 (fun K K' => aS ?_ ?_)<;>intro u<;>try simp at u
 ·obtain rfl : i = 3 := by omega
  refine dv 4 ?_
  refine x3x rfl ?_ rfl
  exact congrArg (fun b : Bool => [AV.pv (.bool b)]) (e2x ⟨hL.1, hL.2.1, hL.2.2.1, hL.2.2.2.1, hL.2.2.2.2, fun i v k a b => a3t h2 (by omega) i v a k b⟩)
 obtain ⟨v, hv⟩ := gE n.views i
 obtain ⟨k, hk⟩ := gE n.known i
 refine dv 9 fun K K' => ?_
 refine x0x rfl rfl rfl (b3r ..) (dc 2 (aS ?_ ?_))<;>intro hg11<;>try simp at hg11
 ·have hbad : ¬ d6r v := a1f (by simpa using hg11)
  refine dv 11 ?_
  refine x3x rfl ?_ rfl
  exact congrArg (fun b : Bool => [AV.pv (.bool b)]) (a5o (fun h => hbad (h.2.2.2.2.2 _ _ _ hv hk).1))
 have hvo : d6r v := a1c.1 (by simpa using hg11)
 refine dv 5 ?_
 refine x0x rfl rfl rfl (z3z ..) (dc 2 (aS ?_ ?_))<;>intro u<;>try simp at u
 ·refine dv 3 ?_
  refine x7x (b := 1) rfl rfl (by omega) (dv 1 ?_)
  exact ⟨i + 1, ⟨⟨by omega, a0i h2 hv (fun k2 hk2 => by rw [hk] at hk2; cases hk2; exact ⟨hvo, by omega⟩)⟩, by omega⟩, [], x6x, x6x, x4x, x4x, rfl⟩
 refine dv 3 ?_
 refine x3x rfl ?_ rfl
 exact congrArg (fun b : Bool => [AV.pv (.bool b)]) (a5o (fun h => by have := (h.2.2.2.2.2 _ _ _ hv hk).2; omega))
theorem c6o (c : Bool) (n : Nd) : a0t Tryz.prog 129 [.agg (u2u c n)] (.pv (.bool (kb (a0q n)))) := by
 refine pX Tryz.f129 [.pv (.bool (kb (a0q n)))] 4 ?_
 refine dv 1 ?_
 refine x8x (id := 0) rfl rfl rfl (dv 4 fun K K' => ?_)
 refine x0x rfl rfl rfl (c1y ..) (dc 2 (aS ?_ ?_))<;>intro hg2<;>try simp at hg2
 ·have hX : ¬ a9i n := hg2
  refine dv 14 ?_
  refine x3x rfl ?_ rfl
  exact congrArg (fun b : Bool => [AV.pv (.bool b)]) (a5o (fun h => by obtain ⟨q1, q2, q3, q4, q5, q6, q7, q8, q9⟩ := h; exact hX q1))
 have hA1 : a9i n := hg2
 refine dv 2 ?_
 refine x0x rfl rfl rfl (a9o ..) (dc 3 (aS ?_ ?_))<;>intro hg3<;>try simp at hg3
 ·have hX : ¬ a9h okE a2q n.kept 100 = true := by simpa using hg3
  refine dv 8 ?_
  refine x3x rfl ?_ rfl
  exact congrArg (fun b : Bool => [AV.pv (.bool b)]) (a5o (fun h => by obtain ⟨q1, q2, q3, q4, q5, q6, q7, q8, q9⟩ := h; exact hX q2))
 have hA2 : a9h okE a2q n.kept 100 = true := hg3
 refine dv 2 ?_
 refine x0x rfl rfl rfl (b9j ..) (dc 2 (aI ?_ ?_))<;>intro hc4<;>try simp at hc4
 ·try have hX : ¬ a9h okO a4l n.outs 96 = true := by simpa using hc4
  refine dv 3 ?_
  refine x3x rfl ?_ rfl
  exact congrArg (fun b : Bool => [AV.pv (.bool b)]) (a5o (fun h => by obtain ⟨q1, q2, q3, q4, q5, q6, q7, q8, q9⟩ := h; exact hX q3))
 have hA3 : a9h okO a4l n.outs 96 = true := hc4
 refine dv 8 fun K K' => ?_
 refine u9u 27 rfl fun hlen0 => ?_
 refine x5x (ι := Nat) (fun i γ1 => [(29, pI (i : Int))]) (fun i γ1 => [(1, ((γ1 1), .dead))]) (fun i => i ≤ n.outs.length ∧ d0v n.outs (fun _ o => o.time < n.g) i) (fun i => n.outs.length - i) (q3q [1, 27, 28] rfl) (a0j [0, 2, 3] rfl) 0 ⟨by omega, a1u⟩ [0, _] x6x x4x rfl fun i γ1 hi => ?_
 obtain ⟨a1, a2⟩ := hi
 refine dc 3 (fun K K' => aI ?_ ?_)<;>intro u<;>try simp at u
 ·obtain ⟨o, ho⟩ := gE n.outs i
  refine dv 6 fun K K' => ?_
  refine x2x (id := 1) z9z b8m rfl (dc 7 (aS ?_ ?_))<;>intro u<;>try simp at u
  ·have hlt : o.time < n.g := by omega
   refine dv 2 ?_
   refine x7x (b := 1) rfl rfl (by omega) (dv 1 ?_)
   exact ⟨i + 1, ⟨⟨by omega, a0i a2 ho hlt⟩, by omega⟩, [0, _], x6x, x6x, x4x, x4x, rfl⟩
  have hX : ¬ o.time < n.g := by omega
  refine dv 3 ?_
  refine x3x rfl ?_ rfl
  exact congrArg (fun b : Bool => [AV.pv (.bool b)]) (a5o (fun h => by obtain ⟨q1, q2, q3, q4, q5, q6, q7, q8, q9⟩ := h; exact hX (q4 _ _ ho)))
 have hO : ∀ (i : Nat) o, n.outs[i]? = some o → o.time < n.g := a3t a2 (by omega)
 refine dv 4 ?_
 refine x0x rfl rfl rfl (a7i ..) (dc 10 (fun K K' => aS ?_ ?_))<;>intro u<;>try simp at u
 ·refine dv 14 ?_
  refine x3x rfl ?_ rfl
  exact congrArg (fun b : Bool => [AV.pv (.bool b)]) (a5o (fun h => by obtain ⟨q1, q2, q3, q4, q5, q6, q7, q8, q9⟩ := h; omega))
 refine dc 6 (aS ?_ ?_)<;>intro u<;>try simp at u
 ·refine dv 8 ?_
  refine x3x rfl ?_ rfl
  exact congrArg (fun b : Bool => [AV.pv (.bool b)]) (a5o (fun h => by obtain ⟨q1, q2, q3, q4, q5, q6, q7, q8, q9⟩ := h; omega))
 refine dc 5 (aI ?_ ?_)<;>intro u<;>try simp at u
 ·refine dv 3 ?_
  refine x3x rfl ?_ rfl
  exact congrArg (fun b : Bool => [AV.pv (.bool b)]) (a5o (fun h => by obtain ⟨q1, q2, q3, q4, q5, q6, q7, q8, q9⟩ := h; omega))
 have hL : n.lanes.length = (q6q n.id 4).length ∧ n.views.length = 3 ∧ n.known.length = 3 := by omega
 refine dv 8 fun K K' => ?_
 refine u9u 61 rfl fun hlen1 => ?_
 refine x5x (ι := Nat) (fun j γ2 => [(63, pI (j : Int))]) (fun j γ2 => [(2, ((γ2 2), .dead))]) (fun j => j ≤ n.lanes.length ∧ d0v n.lanes (fun j l => (q6q n.id 4)[j]? = some l.proc ∧ a6c l = true) j) (fun j => n.lanes.length - j) (q3q [1, 5, 61, 62] rfl) (a0j [0, 1, 3] rfl) 0 ⟨by omega, a1u⟩ [0, 0, _] x6x x4x rfl fun j γ2 hi => ?_
 obtain ⟨b1, b2⟩ := hi
 refine dc 3 (fun K K' => aI ?_ ?_)<;>intro u<;>try simp at u
 ·obtain ⟨l, hl⟩ := gE n.lanes j
  obtain ⟨q, hq⟩ := gE (q6q n.id 4) j
  refine dv 7 fun K K' => ?_
  refine x2x (id := 2) a0k a6r rfl (dc 11 (aS ?_ ?_))<;>intro hg18<;>try simp at hg18
  ·have hX : ¬ l.proc = q := hg18
   refine dv 7 ?_
   refine x3x rfl ?_ rfl
   exact congrArg (fun b : Bool => [AV.pv (.bool b)]) (a5o (fun h => by obtain ⟨q1, q2, q3, q4, q5, q6, q7, q8, q9⟩ := h; have := (q8 _ _ hl).1; rw [hq] at this; exact hX (Option.some.inj this).symm))
  have hpe : l.proc = q := hg18
  refine dv 1 ?_
  refine x0x rfl rfl rfl (b9l ..) (dc 2 (aS ?_ ?_))<;>intro hc19<;>try simp at hc19
  ·have hlo : a6c l = true := hc19
   refine dv 2 ?_
   refine x7x (b := 1) rfl rfl (by omega) (dv 1 ?_)
   exact ⟨j + 1, ⟨⟨by omega, a0i b2 hl ⟨by rw [hq, hpe], hlo⟩⟩, by omega⟩, [0, 0, _], x6x, x6x, x4x, x4x, rfl⟩
  try have hX : ¬ a6c l = true := by simpa using hc19
  refine dv 3 ?_
  refine x3x rfl ?_ rfl
  exact congrArg (fun b : Bool => [AV.pv (.bool b)]) (a5o (fun h => by obtain ⟨q1, q2, q3, q4, q5, q6, q7, q8, q9⟩ := h; exact hX (q8 _ _ hl).2))
 have hN : e7h n := a3t b2 (by omega)
 refine dv 8 fun K K' => ?_
 refine u9u 82 rfl fun hlen2 => ?_
 refine x5x (ι := Nat) (fun k γ3 => [(84, pI (k : Int))]) (fun k γ3 => [(3, ((γ3 3), .dead))]) (fun k => k ≤ n.views.length ∧ d0v n.views (fun j v => ∀ k, n.known[j]? = some k → d6r v ∧ 0 ≤ k ∧ k ≤ 41) k) (fun k => n.views.length - k) (q3q [1, 82, 83] rfl) (a0j [0, 1, 2] rfl) 0 ⟨by omega, a1u⟩ [0, 0, 0, _] x6x x4x rfl fun k γ3 hi => ?_
 obtain ⟨c1, c2⟩ := hi
 refine dc 3 (fun K K' => aS ?_ ?_)<;>intro u<;>try simp at u
 ·have hV : e2y n := fun i v k0 a b => a3t c2 (by omega) i v a k0 b
  refine dv 4 ?_
  refine x3x rfl ?_ rfl
  exact congrArg (fun b : Bool => [AV.pv (.bool b)]) (e2x ⟨hA1, hA2, hA3, hO, hL.1, hL.2.1, hL.2.2, hN, hV⟩)
 obtain ⟨v, hv⟩ := gE n.views k
 obtain ⟨k0, hk⟩ := gE n.known k
 refine dv 7 fun K K' => ?_
 refine x2x (id := 3) s5s a6q rfl (dv 2 ?_)
 refine w8w (ι := Unit) (fun _i γ4 => [(10, .pv (.bool (kb (d6r v))))]) (fun _i γ4 => []) (fun _i => True) (q3q [1, 8, 82, 83, 84] rfl) (a0j [0, 1, 2, 3] rfl) ?_ fun _i γ4 hi => ?_
 ·refine dv 3 ?_
  refine x0x rfl rfl rfl (v7v ..) (dc 1 (aS ?_ ?_))<;>intro u<;>try simp at u
  ·refine dv 9 ?_
   exact ⟨(), trivial, [], (Cov.cons' (t := 10) rfl (by exact congrArg (fun b : Bool => AV.pv (.bool b)) (a5o (fun h => by obtain ⟨q1, q2, q3⟩ := h; omega))) Cov.nil), x6x, x4x, x4x, rfl⟩
  refine dv 2 ?_
  refine x0x rfl rfl rfl (v7v ..) (dc 2 (aS ?_ ?_))<;>intro u<;>try simp at u
  ·refine dv 4 ?_
   exact ⟨(), trivial, [], (Cov.cons' (t := 10) rfl (by exact congrArg (fun b : Bool => AV.pv (.bool b)) (a5o (fun h => by obtain ⟨q1, q2, q3⟩ := h; omega))) Cov.nil), x6x, x4x, x4x, rfl⟩
  refine dv 2 ?_
  refine x0x rfl rfl rfl (a9o ..) (dv 2 ?_)
  exact ⟨(), trivial, [], (Cov.cons' (t := 10) rfl (congrArg (fun b : Bool => AV.pv (.bool b)) (f1s ⟨fun h => ⟨by omega, by omega, h⟩, fun h => h.2.2⟩)) Cov.nil), x6x, x4x, x4x, rfl⟩
 ·try dsimp only [a9u, a9v]
  refine dc 4 (aS ?_ ?_)<;>intro hg27<;>try simp at hg27
  ·have hX : ¬ d6r v := a1f (by simpa using hg27)
   refine dv 11 ?_
   refine x3x rfl ?_ rfl
   exact congrArg (fun b : Bool => [AV.pv (.bool b)]) (a5o (fun h => by obtain ⟨q1, q2, q3, q4, q5, q6, q7, q8, q9⟩ := h; exact hX (q9 _ _ _ hv hk).1))
  have hvo : d6r v := a1c.1 (by simpa using hg27)
  refine dv 5 ?_
  refine x0x rfl rfl rfl (v7v ..) (dc 2 (aS ?_ ?_))<;>intro u<;>try simp at u
  ·refine dv 2 ?_
   refine x7x (b := 1) rfl rfl (by omega) (dv 1 ?_)
   exact ⟨k + 1, ⟨⟨by omega, a0i c2 hv (fun k2 hk2 => by rw [hk] at hk2; cases hk2; exact ⟨hvo, by omega⟩)⟩, by omega⟩, [0, 0, 0, _], x6x, x6x, x4x, x4x, rfl⟩
  refine dv 3 ?_
  refine x3x rfl ?_ rfl
  exact congrArg (fun b : Bool => [AV.pv (.bool b)]) (a5o (fun h => by obtain ⟨q1, q2, q3, q4, q5, q6, q7, q8, q9⟩ := h; have := (q9 _ _ _ hv hk).2; omega))
end
section
theorem a4v (c : Bool) (n : Nd) (proc : Int) (hs : (r7r n).length + (a0r n 3).length ≤ 5000000) (hlen : n.lanes.length ≤ 1048576) (hv3 : n.views.length = 3) : a0t Tryz.prog 124 [.agg (u2u c n), .pv (.int .i64 proc)] (s1s true (a0y n proc)) := by
 refine pX Tryz.f124 [s1s true (a0y n proc)] 6 ?_
 have hla : (r7r n ++ a0r n 3).length = (r7r n).length + (a0r n 3).length := List.length_append
 refine dv 1 ?_
 refine x8x (id := 0) rfl rfl rfl (dv 3 ?_)
 refine rlM [5] [_] (a7l c n (by omega) hlen) rfl rfl rfl ?_
 refine dv 5 fun K K' => ?_
 refine x5x (ι := Nat) (fun i γ1 => [(5, .ref 5 (γ1 5)), (6, pI (i : Int))]) (fun i γ1 => [(5, ((γ1 5), .row 56 7 ((r7r n ++ a0r n i).map y8y))), (1, ((γ1 1), .dead))]) (fun i => i ≤ 3) (fun i => 3 - i) (q3q [1, 2] rfl) (a0j [0, 2, 3, 4] rfl) 0 (by omega) [0, _, 0, 0, 0, _] x6x (HE.row rfl (by simp [a0r]) (HE.kill rfl HE.nil)) rfl fun i γ1 hi => ?_
 refine dc 7 (fun K K' => aI ?_ ?_)<;>intro h<;>try simp at h
 ·obtain ⟨v, hv⟩ := gE n.views i
  have hg : n.views.getD i vi0 = v := by rw [List.getD_eq_getElem?_getD, hv]; rfl
  have hol := d2e n (i := i + 1) (by omega)
  rw [a2z] at hol
  refine dc 8 (fun K K' => aS ?_ ?_)<;>intro hc5<;>try simp at hc5
  ·have hve : b4m n i = [] := by rw [b4m, if_pos hc5]
   refine dv 3 ?_
   refine u1u rfl rfl rfl (dv 1 ?_)
   exact ⟨i + 1, ⟨by omega, by omega⟩, [0, _, 0, 0, 0, _], (y0y 5 rfl (Cov.cons' (t := 6) rfl (by rw [x9x (by omega) (by omega)]; rfl) Cov.nil)), x6x, (HE.row rfl (by rw [a2z, hve]; simp) (HE.kill rfl HE.nil)), x4x, rfl⟩
  have hve : b4m n i = v.events := by rw [b4m, if_neg hc5, hg]
  rw [hve] at hol
  simp only [r0r] at hol
  refine dv 8 ?_
  refine w2w (zs := (r7r n ++ a0r n i ++ v.events).map y8y) rfl rfl u4u rfl z2z rfl rfl rfl (z6z (fun _ => rfl) _) (a5c _ _ _) (by have hb56 : T56.bytes = 56 := rfl; rw [List.length_map, hb56]; simp only [r0r, r5r, r8r]; omega) ?_
  refine dv 3 ?_
  refine u1u rfl rfl rfl (dv 1 ?_)
  exact ⟨i + 1, ⟨by omega, by omega⟩, [0, _, 0, 0, 0, _], (y0y 5 rfl (Cov.cons' (t := 6) rfl (by rw [x9x (by omega) (by omega)]; rfl) Cov.nil)), x6x, (HE.row rfl (by rw [a2z, hve]; simp) (HE.kill rfl HE.nil)), x4x, rfl⟩
 obtain rfl : i = 3 := by omega
 have hall : (r7r n ++ a0r n 3).length ≤ 5000000 := by rw [List.length_append]; omega
 refine dv 1 ?_
 refine w5w 5 rfl rfl (fun _ => rfl) ?_
 refine dv 1 ?_
 refine y1y (id := 2) u4u rfl z2z rfl (dv 5 fun K K' => ?_)
 refine x5x (ι := Nat) (fun j γ2 => [(7, .ref 2 (γ2 2)), (8, pI (j : Int))]) (fun j γ2 => [(2, ((γ2 2), .row 56 7 ((((r7r n ++ a0r n 3).take j).filter (a9j proc n.g)).map y8y))), (3, ((γ2 3), .dead)), (4, ((γ2 4), .dead))]) (fun j => j ≤ (r7r n ++ a0r n 3).length) (fun j => (r7r n ++ a0r n 3).length - j) (q3q [1, 2, 5] rfl) (a0j [0, 1, 5] rfl) 0 (by omega) [0, 0, _, _, _] x6x (HE.row rfl (by rw [List.take_zero]; rfl) (HE.kill rfl (HE.kill rfl HE.nil))) rfl fun j γ2 hi => ?_
 refine dc 6 (fun K K' => aS ?_ ?_)<;>intro h<;>try simp at h
 ·obtain rfl : j = (r7r n ++ a0r n 3).length := by omega
  rw [List.take_length]
  refine dv 1 ?_
  refine w5w 7 rfl rfl (fun _ => rfl) ?_
  refine dv 2 ?_
  refine x0x rfl rfl rfl (a1s true ((r7r n ++ a0r n 3).filter (a9j proc n.g)) (Nat.le_trans (List.length_filter_le _ _) (by rw [List.length_append]; omega))) ?_
  refine dv 2 ?_
  refine x3x rfl rfl rfl
 obtain ⟨p, hp⟩ := gE (r7r n ++ a0r n 3) j
 have hfl : (((r7r n ++ a0r n 3).take j).filter (a9j proc n.g)).length ≤ 5000000 := Nat.le_trans (List.length_filter_le _ _) (by rw [List.length_take]; omega)
 refine dc 12 (fun K K' => aS ?_ ?_)<;>intro hg10<;>try simp at hg10
 ·have hw : ¬ a9j proc n.g p = true := by simp only [a9j, decide_eq_true_eq]; omega
  refine dv 9 ?_
  try have hw : ¬ a9j proc n.g p = true := by simp only [a9j, decide_eq_true_eq]; omega
  refine dv 3 ?_
  refine u1u rfl rfl rfl (dv 1 ?_)
  exact ⟨j + 1, ⟨by omega, by omega⟩, [0, 0, _, _, _], (y0y 7 rfl (Cov.cons' (t := 8) rfl (by rw [x9x (by omega) (by omega)]; rfl) Cov.nil)), x6x, (HE.row rfl (by rw [p7p hp]; rw [if_neg hw, List.append_nil]) (HE.kill rfl (HE.kill rfl HE.nil))), x4x, rfl⟩
 have hw1 : p.to = proc := hg10
 refine dc 9 (aS ?_ ?_)<;>intro h<;>try simp at h
 ·try have hw : ¬ a9j proc n.g p = true := by simp only [a9j, decide_eq_true_eq]; omega
  refine dv 3 ?_
  refine u1u rfl rfl rfl (dv 1 ?_)
  exact ⟨j + 1, ⟨by omega, by omega⟩, [0, 0, _, _, _], (y0y 7 rfl (Cov.cons' (t := 8) rfl (by rw [x9x (by omega) (by omega)]; rfl) Cov.nil)), x6x, (HE.row rfl (by rw [p7p hp]; rw [if_neg hw, List.append_nil]) (HE.kill rfl (HE.kill rfl HE.nil))), x4x, rfl⟩
 have hw : a9j proc n.g p = true := by simp only [a9j, decide_eq_true_eq]; omega
 refine dv 6 ?_
 refine y2y (id := 3) u4u rfl z2z rfl rfl rfl rfl rfl rfl ?_
 refine y7y (zs := (((r7r n ++ a0r n 3).take j).filter (a9j proc n.g) ++ [p]).map y8y) rfl rfl u4u rfl z2z rfl rfl rfl rfl (by rfl) (z7z _ _ _) (by have hb56 : T56.bytes = 56 := rfl; rw [List.length_map, hb56]; simp only [r0r, r5r, r8r]; omega) ?_
 refine dv 3 ?_
 refine u1u rfl rfl rfl (dv 1 ?_)
 exact ⟨j + 1, ⟨by omega, by omega⟩, [0, 0, _, _, _], (y0y 7 rfl (Cov.cons' (t := 8) rfl (by rw [x9x (by omega) (by omega)]; rfl) Cov.nil)), x6x, (HE.row rfl (by rw [p7p hp]; rw [if_pos hw]) (HE.kill rfl (HE.kill rfl HE.nil))), x4x, rfl⟩
end
section
theorem p2p (c : Bool) (n : Nd) : a0t Tryz.prog 46 [.agg (u2u c n)] (.pv (.bool (kb (y4y n)))) := by
 refine pX Tryz.f46 [.pv (.bool (kb (y4y n)))] 1 ?_
 have hpl := a6b n.id 4
 refine dv 1 ?_
 refine x8x (id := 0) rfl rfl rfl (dv 5 fun K K' => ?_)
 refine x0x rfl rfl rfl (z3z ..) (dc 2 (aS ?_ ?_))<;>intro hg2<;>try simp at hg2
 ·have hX : ¬ (0 ≤ n.id ∧ n.id ≤ 2) := by omega
  refine dv 40 ?_
  refine x3x rfl ?_ rfl
  exact congrArg (fun b : Bool => [AV.pv (.bool b)]) (a5o (fun h => by obtain ⟨⟨q1, q2, q3, q4, q5, q6, q7, q8, q9⟩, q0⟩ := h; exact hX q1.1))
 have f1 : 0 ≤ n.id ∧ n.id ≤ 2 := hg2
 refine dv 2 ?_
 refine x0x rfl rfl rfl (u7u ..) (dv 0 ?_)
 refine x0x rfl rfl rfl (z3z ..) (dc 3 (aS ?_ ?_))<;>intro hg3<;>try simp at hg3
 ·have hX : ¬ (1 ≤ n.inc ∧ n.inc ≤ 9999) := by omega
  refine dv 33 ?_
  refine x3x rfl ?_ rfl
  exact congrArg (fun b : Bool => [AV.pv (.bool b)]) (a5o (fun h => by obtain ⟨⟨q1, q2, q3, q4, q5, q6, q7, q8, q9⟩, q0⟩ := h; exact hX q1.2.1))
 have f2 : 1 ≤ n.inc ∧ n.inc ≤ 9999 := hg3
 refine dv 2 ?_
 refine x0x rfl rfl rfl (z3z ..) (dc 3 (aS ?_ ?_))<;>intro hg4<;>try simp at hg4
 ·have hX : ¬ (0 ≤ n.g ∧ n.g ≤ 41) := by omega
  refine dv 27 ?_
  refine x3x rfl ?_ rfl
  exact congrArg (fun b : Bool => [AV.pv (.bool b)]) (a5o (fun h => by obtain ⟨⟨q1, q2, q3, q4, q5, q6, q7, q8, q9⟩, q0⟩ := h; exact hX q1.2.2.1))
 have f3 : 0 ≤ n.g ∧ n.g ≤ 41 := hg4
 refine dv 2 ?_
 refine x0x rfl rfl rfl (u7u ..) (dv 0 ?_)
 refine x0x rfl rfl rfl (z3z ..) (dc 3 (aS ?_ ?_))<;>intro hg5<;>try simp at hg5
 ·have hX : ¬ (0 ≤ n.led ∧ n.led ≤ 9999) := by omega
  refine dv 20 ?_
  refine x3x rfl ?_ rfl
  exact congrArg (fun b : Bool => [AV.pv (.bool b)]) (a5o (fun h => by obtain ⟨⟨q1, q2, q3, q4, q5, q6, q7, q8, q9⟩, q0⟩ := h; exact hX q1.2.2.2.1))
 have f4 : 0 ≤ n.led ∧ n.led ≤ 9999 := hg5
 refine dv 2 ?_
 refine x0x rfl rfl rfl (a4f ..) (dv 0 ?_)
 refine x0x rfl rfl rfl (a4c ..) (dc 3 (aS ?_ ?_))<;>intro hg6<;>try simp at hg6
 ·have hX : ¬ a9h okE a2q n.kept 100 = true := by simpa using hg6
  refine dv 13 ?_
  refine x3x rfl ?_ rfl
  exact congrArg (fun b : Bool => [AV.pv (.bool b)]) (a5o (fun h => by obtain ⟨⟨q1, q2, q3, q4, q5, q6, q7, q8, q9⟩, q0⟩ := h; exact hX q2))
 have f5 : a9h okE a2q n.kept 100 = true := hg6
 refine dv 2 ?_
 refine x0x rfl rfl rfl (a8p ..) (dc 3 (aS ?_ ?_))<;>intro hg7<;>try simp at hg7
 ·have hX : ¬ a9h okO a4l n.outs 96 = true := by simpa using hg7
  refine dv 7 ?_
  refine x3x rfl ?_ rfl
  exact congrArg (fun b : Bool => [AV.pv (.bool b)]) (a5o (fun h => by obtain ⟨⟨q1, q2, q3, q4, q5, q6, q7, q8, q9⟩, q0⟩ := h; exact hX q3))
 have f6 : a9h okO a4l n.outs 96 = true := hg7
 refine dv 1 ?_
 refine x0x rfl rfl rfl (c5f ..) (dc 2 (aI ?_ ?_))<;>intro hc8<;>try simp at hc8
 ·try have hX : ¬ c9l n := a1f (by simpa using hc8)
  refine dv 3 ?_
  refine x3x rfl ?_ rfl
  exact congrArg (fun b : Bool => [AV.pv (.bool b)]) (a5o (fun h => by obtain ⟨⟨q1, q2, q3, q4, q5, q6, q7, q8, q9⟩, q0⟩ := h; exact hX ⟨q6, q7, q1.2.2.2.2.1, q1.2.2.2.2.2.1, q1.2.2.2.2.2.2, q9⟩))
 have fF : c9l n := a1c.1 (by simpa using hc8)
 have fo96 := (s0s f6).1
 refine dv 1 ?_
 refine w8w (ι := Unit) (fun _i γ1 => []) (fun _i γ1 => []) (fun _i => ∀ (i : Nat) a, n.outs[i]? = some a → a.time < n.g) (y0y 1 rfl Cov.nil) (w4w 0 rfl HE.nil) ?_ fun _i γ1 hi => ?_
 ·refine dc 6 (aS ?_ ?_)<;>intro hg9<;>try simp at hg9
  ·have g0 : n.outs.length = 0 := by (rw [hg9]; rfl)
   have fO : ∀ (i : Nat) a, n.outs[i]? = some a → a.time < n.g := fun i a ha => by have := (List.getElem?_eq_some_iff.1 ha).1; omega
   refine dv 13 ?_
   try have fO : ∀ (i : Nat) a, n.outs[i]? = some a → a.time < n.g := d2l f6 ho (by omega)
   refine dv 1 ?_
   exact ⟨(), fO, [], x6x, x6x, x4x, x4x, rfl⟩
  have g0 : 0 < n.outs.length := by omega
  obtain ⟨o, ho⟩ := gE n.outs (n.outs.length - 1)
  refine dv 5 ?_
  refine w6w (b := 1) rfl rfl (by omega) (by omega) (dc 7 (aS ?_ ?_))<;>intro u<;>try simp at u
  ·try have fO : ∀ (i : Nat) a, n.outs[i]? = some a → a.time < n.g := d2l f6 ho (by omega)
   refine dv 1 ?_
   exact ⟨(), fO, [], x6x, x6x, x4x, x4x, rfl⟩
  have hX : ¬ o.time < n.g := by omega
  refine dv 3 ?_
  refine x3x rfl ?_ rfl
  exact congrArg (fun b : Bool => [AV.pv (.bool b)]) (a5o (fun h => by obtain ⟨⟨q1, q2, q3, q4, q5, q6, q7, q8, q9⟩, q0⟩ := h; exact hX (q4 _ _ ho)))
 ·try dsimp only [a9u, a9v]
  have fO := hi
  refine dv 3 ?_
  refine x0x rfl rfl rfl (b5g ..) (dc 9 (fun K K' => aI ?_ ?_))<;>intro u<;>try simp at u
  ·refine dv 3 ?_
   refine x3x rfl ?_ rfl
   exact congrArg (fun b : Bool => [AV.pv (.bool b)]) (a5o (fun h => by obtain ⟨⟨q1, q2, q3, q4, q5, q6, q7, q8, q9⟩, q0⟩ := h; omega))
  have fL : n.lanes.length = (q6q n.id 4).length := by omega
  refine dv 5 fun K K' => ?_
  refine x5x (ι := Nat) (fun i γ2 => [(4, pI (i : Int))]) (fun i γ2 => []) (fun i => i ≤ (q6q n.id 4).length ∧ d0v n.lanes (fun j l => (q6q n.id 4)[j]? = some l.proc ∧ a6c l = true) i) (fun i => (q6q n.id 4).length - i) (q3q [1, 3] rfl) (w4w 0 rfl HE.nil) 0 ⟨by omega, a1u⟩ [] x6x x4x rfl fun i γ2 hi => ?_
  obtain ⟨b1, b2⟩ := hi
  refine dc 6 (fun K K' => aI ?_ ?_)<;>intro u<;>try simp at u
  ·obtain ⟨l, hl⟩ := gE n.lanes i
   obtain ⟨p, hp⟩ := gE (q6q n.id 4) i
   refine dv 9 fun K K' => ?_
   refine x0x rfl rfl rfl (a4g ..) (dc 2 (aS ?_ ?_))<;>intro hg18<;>try simp at hg18
   ·have hX : ¬ a6c l = true := by simpa using hg18
    refine dv 16 ?_
    refine x3x rfl ?_ rfl
    exact congrArg (fun b : Bool => [AV.pv (.bool b)]) (a5o (fun h => by obtain ⟨⟨q1, q2, q3, q4, q5, q6, q7, q8, q9⟩, q0⟩ := h; exact hX (q8 _ _ hl).2))
   have hlo : a6c l = true := hg18
   refine dc 13 (aS ?_ ?_)<;>intro hc19<;>try simp at hc19
   ·have hpe : l.proc = p := hc19
    refine dv 3 ?_
    refine x7x (b := 1) rfl rfl (by omega) (dv 1 ?_)
    exact ⟨i + 1, ⟨⟨by omega, a0i b2 hl ⟨by rw [hp, hpe], hlo⟩⟩, by omega⟩, [], x6x, x6x, x4x, x4x, rfl⟩
   try have hX : ¬ l.proc = p := hc19
   refine dv 3 ?_
   refine x3x rfl ?_ rfl
   exact congrArg (fun b : Bool => [AV.pv (.bool b)]) (a5o (fun h => by obtain ⟨⟨q1, q2, q3, q4, q5, q6, q7, q8, q9⟩, q0⟩ := h; have := (q8 _ _ hl).1; rw [hp] at this; exact hX (Option.some.inj this).symm))
  have fN : e7h n := a3t b2 (by omega)
  refine dv 5 fun K K' => ?_
  refine x5x (ι := Nat) (fun j γ3 => [(5, pI (j : Int))]) (fun j γ3 => []) (fun j => j ≤ (q6q n.id 4).length ∧ d0v n.lanes (fun j l => ∀ p, (q6q n.id 4)[j]? = some p → l.done.length ≤ same l.done (a0y n p) ∧ (a0y n p).length ≤ 100) j) (fun j => (q6q n.id 4).length - j) (q3q [1, 3] rfl) (w4w 0 rfl HE.nil) 0 ⟨by omega, a1u⟩ [] x6x x4x rfl fun j γ3 hi => ?_
  obtain ⟨d1, d2⟩ := hi
  refine dc 6 (fun K K' => aS ?_ ?_)<;>intro u<;>try simp at u
  ·have fC := fun (i : Nat) p l (a : (q6q n.id 4)[i]? = some p) (b : n.lanes[i]? = some l) => a3t d2 (by omega) i l b p a
   refine dv 4 ?_
   refine x3x rfl ?_ rfl
   exact congrArg (fun b : Bool => [AV.pv (.bool b)]) (e2x ⟨⟨⟨f1, f2, f3, f4, fF.2.2.1, fF.2.2.2.1, fF.2.2.2.2.1⟩, f5, f6, fO, fL, fF.1, fF.2.1, fN, fF.2.2.2.2.2⟩, fC⟩)
  obtain ⟨l, hl⟩ := gE n.lanes j
  obtain ⟨p, hp⟩ := gE (q6q n.id 4) j
  obtain ⟨hdl, _⟩ := a1i (fN j l hl).2
  refine dv 15 fun K K' => ?_
  refine x0x rfl rfl rfl (a4v c n p (by have := c9n f5 (by omega) fN; have := c9o fF.1 fF.2.1 fF.2.2.2.2.2; omega) (by omega) fF.1) ?_
  refine x0x rfl rfl rfl (b0v ..) (dc 9 (aS ?_ ?_))<;>intro u<;>try simp at u
  ·refine dv 14 ?_
   refine x3x rfl ?_ rfl
   exact congrArg (fun b : Bool => [AV.pv (.bool b)]) (a5o (fun h => by obtain ⟨⟨q1, q2, q3, q4, q5, q6, q7, q8, q9⟩, q0⟩ := h; have := q0 _ _ _ hp hl; omega))
  refine dv 6 ?_
  refine x0x rfl rfl rfl (a4v c n p (by have := c9n f5 (by omega) fN; have := c9o fF.1 fF.2.1 fF.2.2.2.2.2; omega) (by omega) fF.1) ?_
  refine dv 1 ?_
  refine x0x rfl rfl rfl (a4f ..) (dc 2 (aS ?_ ?_))<;>intro u<;>try simp at u
  ·refine dv 3 ?_
   refine x7x (b := 1) rfl rfl (by omega) (dv 1 ?_)
   exact ⟨j + 1, ⟨⟨by omega, a0i d2 hl (fun p2 hp2 => by rw [hp] at hp2; cases hp2; omega)⟩, by omega⟩, [], x6x, x6x, x4x, x4x, rfl⟩
  refine dv 3 ?_
  refine x3x rfl ?_ rfl
  exact congrArg (fun b : Bool => [AV.pv (.bool b)]) (a5o (fun h => by obtain ⟨⟨q1, q2, q3, q4, q5, q6, q7, q8, q9⟩, q0⟩ := h; have := q0 _ _ _ hp hl; omega))
end
section
theorem a9p (c : Bool) (n : Nd) (t : Nat) (ht : t < 3) (hk3 : n.known.length = 3) (hs : (r7r n).length ≤ 5000000) (hlen : n.lanes.length ≤ 1048576) : a0t Tryz.prog 135 [.agg (u2u c n), .pv (.int .i64 (t : Int))] (s1s true (a1d n (t : Int))) := by
 refine pX Tryz.f135 [s1s true (a1d n (t : Int))] 5 ?_
 obtain ⟨kn, hkn⟩ := gE n.known t
 rw [c3z hkn]
 refine dv 1 ?_
 refine x8x (id := 0) rfl rfl rfl (dv 3 ?_)
 refine rlM [4] [_] (a7l c n (by omega) hlen) rfl rfl rfl ?_
 refine dv 1 ?_
 refine w5w 5 rfl rfl (fun _ => rfl) ?_
 refine dv 1 ?_
 refine y1y (id := 1) u4u rfl z2z rfl (dv 5 fun K K' => ?_)
 refine x5x (ι := Nat) (fun j γ1 => [(6, .ref 1 (γ1 1)), (7, pI (j : Int))]) (fun j γ1 => [(1, ((γ1 1), .row 56 7 ((((r7r n).take j).filter (a3v (t : Int) kn)).map y8y))), (2, ((γ1 2), .dead)), (3, ((γ1 3), .dead))]) (fun j => j ≤ (r7r n).length) (fun j => (r7r n).length - j) (q3q [1, 2, 5] rfl) (a0j [0, 4] rfl) 0 (by omega) [0, _, _, _] x6x (HE.row rfl (by rw [List.take_zero]; rfl) (HE.kill rfl (HE.kill rfl HE.nil))) rfl fun j γ1 hi => ?_
 refine dc 6 (fun K K' => aS ?_ ?_)<;>intro h<;>try simp at h
 ·obtain rfl : j = (r7r n).length := by omega
  rw [List.take_length]
  refine dv 1 ?_
  refine w5w 6 rfl rfl (fun _ => rfl) ?_
  refine dv 2 ?_
  refine x0x rfl rfl rfl (a1s true ((r7r n).filter (a3v (t : Int) kn)) (Nat.le_trans (List.length_filter_le _ _) (by omega))) ?_
  refine dv 2 ?_
  refine x3x rfl rfl rfl
 obtain ⟨p, hp⟩ := gE (r7r n) j
 have hfl : (((r7r n).take j).filter (a3v (t : Int) kn)).length ≤ 5000000 := Nat.le_trans (List.length_filter_le _ _) (by rw [List.length_take]; omega)
 refine dv 9 fun K K' => ?_
 refine x0x rfl rfl rfl (a0s ..) (dc 3 (aS ?_ ?_))<;>intro hg5<;>try simp at hg5
 ·have hw : ¬ a3v (t : Int) kn p = true := by simp only [a3v, decide_eq_true_eq]; omega
  refine dv 12 ?_
  try have hw : ¬ a3v (t : Int) kn p = true := by simp only [a3v, decide_eq_true_eq]; omega
  refine dv 3 ?_
  refine u1u rfl rfl rfl (dv 1 ?_)
  exact ⟨j + 1, ⟨by omega, by omega⟩, [0, _, _, _], (y0y 6 rfl (Cov.cons' (t := 7) rfl (by rw [x9x (by omega) (by omega)]; rfl) Cov.nil)), x6x, (HE.row rfl (by rw [p7p hp]; rw [if_neg hw, List.append_nil]) (HE.kill rfl (HE.kill rfl HE.nil))), x4x, rfl⟩
 have hw1 : a0h p.to = (t : Int) := hg5
 refine dc 12 (aS ?_ ?_)<;>intro h<;>try simp at h
 ·try have hw : ¬ a3v (t : Int) kn p = true := by simp only [a3v, decide_eq_true_eq]; omega
  refine dv 3 ?_
  refine u1u rfl rfl rfl (dv 1 ?_)
  exact ⟨j + 1, ⟨by omega, by omega⟩, [0, _, _, _], (y0y 6 rfl (Cov.cons' (t := 7) rfl (by rw [x9x (by omega) (by omega)]; rfl) Cov.nil)), x6x, (HE.row rfl (by rw [p7p hp]; rw [if_neg hw, List.append_nil]) (HE.kill rfl (HE.kill rfl HE.nil))), x4x, rfl⟩
 have hw : a3v (t : Int) kn p = true := by simp only [a3v, decide_eq_true_eq]; omega
 refine dv 6 ?_
 refine y2y (id := 2) u4u rfl z2z rfl rfl rfl rfl rfl rfl ?_
 refine y7y (zs := (((r7r n).take j).filter (a3v (t : Int) kn) ++ [p]).map y8y) rfl rfl u4u rfl z2z rfl rfl rfl rfl (by rfl) (z7z _ _ _) (by (simp only [s3s, r0r, r5r, r8r, a0p, a2m, T56] at *; omega)) ?_
 refine dv 3 ?_
 refine u1u rfl rfl rfl (dv 1 ?_)
 exact ⟨j + 1, ⟨by omega, by omega⟩, [0, _, _, _], (y0y 6 rfl (Cov.cons' (t := 7) rfl (by rw [x9x (by omega) (by omega)]; rfl) Cov.nil)), x6x, (HE.row rfl (by rw [p7p hp]; rw [if_pos hw]) (HE.kill rfl (HE.kill rfl HE.nil))), x4x, rfl⟩
end
section
theorem c6p (c c' : Bool) (l l' : List Ev) : a0t Tryz.prog 251 [s1s c l, s1s c' l'] (.pv (.bool (decide (l = l')))) := by
 refine pX Tryz.f251 [.pv (.bool (decide (l = l')))] 0 ?_
 refine u9u 0 rfl fun hlen => ?_
 refine dc 9 (fun K K' => aI ?_ ?_)<;>intro o<;>try simp at o
 ·refine dv 3 ?_
  refine x3x rfl ?_ rfl
  exact f2i (by omega)
 refine dv 5 fun K K' => ?_
 refine x5x (ι := Nat) (fun i γ1 => [(5, pI (i : Int))]) (fun i γ1 => []) (fun i => i ≤ l.length ∧ l.length = l'.length ∧ l.take i = l'.take i) (fun i => l.length - i) (q3q [0, 1] rfl) HE.nil 0 ⟨by omega, by omega, rfl⟩ [] x6x x4x rfl fun i γ1 hi => ?_
 obtain ⟨h1, h2, h3⟩ := hi
 refine dc 6 (fun K K' => aS ?_ ?_)<;>intro o<;>try simp at o
 ·refine dv 4 ?_
  refine x3x rfl ?_ rfl
  exact eqT h3 (by omega) (by omega)
 refine dv 6 fun K K' => ?_
 obtain ⟨x, hx⟩ := gE l i
 refine dv 4 ?_
 obtain ⟨y, hy⟩ := gE l' i
 refine dv 2 ?_
 refine a9b rfl rfl (by intro p q h; cases h) (.inr rfl) (e9w _ _ _ _) ?_
 refine dc 0 (aS ?_ ?_)<;>intro hc7<;>try simp at hc7
 ·have hxy : x = y := by simpa [a2c] using hc7
  refine dv 3 ?_
  refine r1r (.int .i64 ((i + 1 : Nat) : Int)) rfl rfl rfl (a6o rfl (by omega) (by omega) (by have := hlen; omega)) ?_
  refine dv 1 ?_
  exact ⟨i + 1, ⟨⟨by omega, h2, a7v h3 hx hy (by assumption)⟩, by omega⟩, [], x6x, x6x, x4x, x4x, rfl⟩
 have hxy : ¬ x = y := by simpa [a2c] using hc7
 refine dv 3 ?_
 refine x3x rfl ?_ rfl
 exact d9x hx hy (by assumption)
theorem b3s (c : Bool) (a b : List Ev) (g : Int) : a0t Tryz.prog 169 [s1s c a, s1s c b, .pv (.int .i64 g)] (.pv (.int .i64 (chg g a (chg g b 41 a) b))) := by
 refine pX Tryz.f169 [.pv (.int .i64 (chg g a (chg g b 41 a) b))] 0 ?_
 refine dv 8 fun K K' => ?_
 refine x5x (ι := Nat) (fun k γ1 => [(0, s1s c (swK a b k)), (1, s1s c (swK b a k)), (7, pI (e9u g a b k)), (8, pI (k : Int))]) (fun k γ1 => []) (fun k => k ≤ 2) (fun k => 2 - k) (y0y 2 rfl Cov.nil) HE.nil 0 (by omega) [] (Cov.cons' (t := 0) rfl (rfl) (Cov.cons' (t := 1) rfl (rfl) (Cov.cons' (t := 7) rfl (rfl) (y0y 8 rfl Cov.nil)))) x4x rfl fun k γ1 hi => ?_
 refine dc 4 (fun K K' => aS ?_ ?_)<;>intro o<;>try simp at o
 ·obtain rfl : k = 2 := by omega
  refine dv 5 ?_
  exact x3x rfl rfl rfl
 refine dv 7 fun K K' K K' => ?_
 refine u9u 0 rfl fun hlen0 => ?_
 refine x5x (ι := Nat) (fun i γ2 => [(7, pI (chg g (swK b a k) (e9u g a b k) ((swK a b k).take i))), (9, pI (i : Int))]) (fun i γ2 => []) (fun i => i ≤ (swK a b k).length) (fun i => (swK a b k).length - i) (q3q [0, 1, 2, 8] rfl) HE.nil 0 (by omega) [] (Cov.cons' (t := 7) rfl (by rw [List.take_zero]; rfl) (y0y 9 rfl Cov.nil)) x4x rfl fun i γ2 hi => ?_
 refine dc 6 (fun K K' => aS ?_ ?_)<;>intro o<;>try simp at o
 ·obtain rfl : i = (swK a b k).length := by omega
  refine dv 12 ?_
  refine x7x (b := 1) rfl rfl (by omega) (dv 1 ?_)
  exact ⟨k + 1, ⟨by omega, by omega⟩, [], (Cov.cons' (t := 0) rfl (by rw [d7f (by omega)]) (Cov.cons' (t := 1) rfl (by rw [d7f (by omega)]) (Cov.cons' (t := 7) rfl (by rw [e3s (by omega), List.take_length]) (y0y 8 rfl Cov.nil)))), x6x, x4x, x4x, rfl⟩
 obtain ⟨x, hx⟩ := gE (swK a b k) i
 refine dv 9 fun K K' K K' => ?_
 refine u9u 1 rfl fun hlen1 => ?_
 refine x5x (ι := Nat) (fun j γ3 => [(10, .pv (.bool (decide (x ∈ (swK b a k).take j)))), (11, pI (j : Int))]) (fun j γ3 => []) (fun j => j ≤ (swK b a k).length) (fun j => (swK b a k).length - j) (q3q [0, 1, 2, 7, 8, 9] rfl) HE.nil 0 (by omega) [] (Cov.cons' (t := 10) rfl (by simp) (y0y 11 rfl Cov.nil)) x4x rfl fun j γ3 hi => ?_
 refine dc 6 (fun K K' => aI ?_ ?_)<;>intro o<;>try simp at o
 ·obtain ⟨z, hz⟩ := gE (swK b a k) j
  refine dc 6 (fun K K' => aS ?_ ?_)<;>intro hg13<;>try simp at hg13
  ·have hin : x ∈ (swK b a k).take j := by simpa using hg13
   refine dv 12 ?_
   refine x7x (b := 1) rfl rfl (by omega) (dv 1 ?_)
   exact ⟨j + 1, ⟨by omega, by omega⟩, [], (Cov.cons' (t := 10) rfl (by rw [z8z hz]; (simp [hin]; done)) (y0y 11 rfl Cov.nil)), x6x, x4x, x4x, rfl⟩
  have hin : ¬ x ∈ (swK b a k).take j := by simpa using hg13
  refine dv 8 ?_
  refine a9b rfl rfl (by intro a c h; cases h) (.inl rfl) (e9w _ _ _ _) ?_
  refine dv 4 ?_
  refine x7x (b := 1) rfl rfl (by omega) (dv 1 ?_)
  exact ⟨j + 1, ⟨by omega, by omega⟩, [], (Cov.cons' (t := 10) rfl (by rw [z8z hz]; (simp [hin]; rfl)) (y0y 11 rfl Cov.nil)), x6x, x4x, x4x, rfl⟩
 obtain rfl : j = (swK b a k).length := by omega
 rw [List.take_length]
 refine dc 5 (aS ?_ ?_)<;>intro hg14<;>try simp at hg14
 ·have hn : ¬ (g ≤ x.time ∧ x.time < chg g (swK b a k) (e9u g a b k) ((swK a b k).take i) ∧ ¬ x ∈ swK b a k) := fun q => q.2.2 (by simpa using hg14)
  refine dv 20 ?_
  refine x7x (b := 1) rfl rfl (by omega) (dv 1 ?_)
  exact ⟨i + 1, ⟨by omega, by omega⟩, [], (Cov.cons' (t := 7) rfl (by rw [b9e hx, if_neg hn]) (y0y 9 rfl Cov.nil)), x6x, x4x, x4x, rfl⟩
 have hm : ¬ x ∈ swK b a k := by simpa using hg14
 refine dc 9 (aS ?_ ?_)<;>intro o<;>try simp at o
 ·have hn : ¬ (g ≤ x.time ∧ x.time < chg g (swK b a k) (e9u g a b k) ((swK a b k).take i) ∧ ¬ x ∈ swK b a k) := fun q => (by have := q.1; omega)
  refine dv 11 ?_
  refine x7x (b := 1) rfl rfl (by omega) (dv 1 ?_)
  exact ⟨i + 1, ⟨by omega, by omega⟩, [], (Cov.cons' (t := 7) rfl (by rw [b9e hx, if_neg hn]) (y0y 9 rfl Cov.nil)), x6x, x4x, x4x, rfl⟩
 refine dc 8 (aS ?_ ?_)<;>intro o<;>try simp at o
 ·have hn : ¬ (g ≤ x.time ∧ x.time < chg g (swK b a k) (e9u g a b k) ((swK a b k).take i) ∧ ¬ x ∈ swK b a k) := by exact fun q => (by have := q.2.1; omega)
  refine dv 3 ?_
  refine x7x (b := 1) rfl rfl (by omega) (dv 1 ?_)
  exact ⟨i + 1, ⟨by omega, by omega⟩, [], (Cov.cons' (t := 7) rfl (by rw [b9e hx, if_neg hn]) (y0y 9 rfl Cov.nil)), x6x, x4x, x4x, rfl⟩
 have hy : g ≤ x.time ∧ x.time < chg g (swK b a k) (e9u g a b k) ((swK a b k).take i) ∧ ¬ x ∈ swK b a k := ⟨by omega, by omega, hm⟩
 refine dv 9 ?_
 refine x7x (b := 1) rfl rfl (by omega) (dv 1 ?_)
 exact ⟨i + 1, ⟨by omega, by omega⟩, [], (Cov.cons' (t := 7) rfl (by (rw [b9e hx, if_pos hy] <;> rfl)) (y0y 9 rfl Cov.nil)), x6x, x4x, x4x, rfl⟩
theorem b5h (n : Nd) (hw : wk n) : Meth Tryz.prog 171 3 [0, 1, 2] [.agg [pI n.id, .pv (.bool n.up), pI n.inc, pI n.g, .ref 0 0, s1s true n.kept, q7q true n.outs, pI n.led, pI n.version, .ref 1 0, .ref 2 0, pI n.round, pI n.low]] [(0, (0, .row 44 5 ((n.lanes).map (q1q true)))), (1, (0, .row 190 3 ((n.views).map (a2l true)))), (2, (0, .row 3 1 (n.known.map a3i)))] (.agg [pI (nl n (a0e n n.lanes)).id, .pv (.bool (nl n (a0e n n.lanes)).up), pI (nl n (a0e n n.lanes)).inc, pI (nl n (a0e n n.lanes)).g, .ref 0 0, s1s true (nl n (a0e n n.lanes)).kept, q7q true (nl n (a0e n n.lanes)).outs, pI (nl n (a0e n n.lanes)).led, pI (nl n (a0e n n.lanes)).version, .ref 1 0, .ref 2 0, pI (nl n (a0e n n.lanes)).round, pI (nl n (a0e n n.lanes)).low]) [(0, (0, .row 44 5 ((a0e n n.lanes).map (q1q true))))] := by
 refine mX Tryz.f171 [.agg [pI (nl n (a0e n n.lanes)).id, .pv (.bool (nl n (a0e n n.lanes)).up), pI (nl n (a0e n n.lanes)).inc, pI (nl n (a0e n n.lanes)).g, .ref 0 0, s1s true (nl n (a0e n n.lanes)).kept, q7q true (nl n (a0e n n.lanes)).outs, pI (nl n (a0e n n.lanes)).led, pI (nl n (a0e n n.lanes)).version, .ref 1 0, .ref 2 0, pI (nl n (a0e n n.lanes)).round, pI (nl n (a0e n n.lanes)).low]] 3 2 fun γ => ?_
 refine dv 1 ?_
 refine x8x (id := 3) rfl rfl rfl (x2x (id := 4) u6u p9p rfl (dv 4 fun K K' => ?_))
 refine x5x (ι := List La × Bool) (fun p γ1 => [(3, .pv (.bool (p.2)))]) (fun p γ1 => [(0, ((γ 0), .row 44 5 ((p.1).map (q1q true))))]) (fun p => (p.2 = true → a0e n p.1 = a0e n n.lanes) ∧ (p.2 = false → p.1 = a0e n n.lanes) ∧ wk (nl n p.1)) (fun p => 2 * c9s p.1 + p.2.toNat) (q3q [1, 2] rfl) (a0j [1, 2, 3, 4] rfl) (n.lanes, true) ⟨fun _ => rfl, fun h => (by cases h), hw⟩ [] x6x x4x rfl fun p γ1 hi => ?_
 obtain ⟨ls, q⟩ := p
 obtain ⟨h1, h2, h3⟩ := hi
 dsimp only at h1 h2 h3 ⊢
 refine dc 3 (fun K K' => aS ?_ ?_)<;>intro hc3<;>try simp at hc3
 ·have hq : q = false := by simpa using hc3
  subst hq
  have hfin : ls = a0e n n.lanes := h2 rfl
  refine dv 4 ?_
  subst hfin
  refine dv 1 ?_
  exact ⟨[γ 0, γ 1, γ 2], rfl, rfl, x4x⟩
 have hq : q = true := hc3
 subst hq
 refine dv 7 ?_
 refine x5x (ι := Nat) (fun i γ2 => [(3, .pv (.bool (b3a n ls i))), (4, pI (i : Int))]) (fun i γ2 => [(0, ((γ 0), .row 44 5 ((a3h n ls i).map (q1q true))))]) (fun i => i ≤ ls.length) (fun i => ls.length - i) (q3q [1, 2] rfl) (a0j [1, 2, 3, 4] rfl) 0 (by omega) [] (Cov.cons' (t := 3) rfl (rfl) (y0y 4 rfl Cov.nil)) x4x rfl fun i γ2 hi => ?_
 refine dc 7 (fun K K' => aS ?_ ?_)<;>intro o<;>try simp at o
 ·have hpl : (a3h n ls i).length = ls.length := c9t n ls i
  obtain rfl : i = ls.length := by omega
  refine dv 1 ?_
  exact ⟨(a3h n ls ls.length, b3a n ls ls.length), ⟨⟨fun h => (c9u h).trans (h1 rfl), fun h => (c2l h).trans (h1 rfl), c4o h3 _⟩, (f2b n ls ls.length)⟩, [], x6x, x6x, x4x, x4x, rfl⟩
 have hpl : (a3h n ls i).length = ls.length := c9t n ls i
 obtain ⟨l, hp⟩ := gE (a3h n ls i) i
 have h4 := c4o h3 i
 have h41 : (a3h n ls i).length ≤ 4 := h4.1
 have hb4 := h4.2.2.2.2.1 l (List.mem_of_getElem? hp)
 refine dv 7 fun K K' => ?_
 refine y3y (j := i) rfl rfl a8c rfl a0k rfl rfl (z0z hp) ?_
 refine dv 5 ?_
 refine y3y (j := i) rfl rfl a8c rfl a0k rfl rfl (z0z hp) ?_
 refine dv 2 ?_
 refine b2m rfl rfl rfl (c4q (n := nl n (a3h n ls i)) rfl rfl rfl (.cl rfl .nil)) (a4v false (nl n (a3h n ls i)) l.proc (e3l h4) (by have := h4.1; omega) h4.2.2.1) (b1x _) ?_
 refine x0x rfl rfl rfl (b0v true true l (a0y (nl n (a3h n ls i)) l.proc)) ?_
 refine dv 6 ?_
 refine y3y (j := i) rfl rfl a8c rfl a0k rfl rfl (z0z hp) ?_
 refine dc 4 (aS ?_ ?_)<;>intro o<;>try simp at o
 ·have hk := e3n (n := n) hp (by show ¬ same l.done (a0y (nl n (a3h n ls i)) l.proc) < l.done.length; omega)
  refine dv 3 ?_
  refine u1u rfl rfl rfl (dv 1 ?_)
  exact ⟨i + 1, ⟨by omega, by omega⟩, [], (Cov.cons' (t := 3) rfl (by rw [c7v, hk.2, Bool.or_false]) (Cov.cons' (t := 4) rfl (by rw [x9x (by omega) (by omega)]; rfl) Cov.nil)), x6x, (HE.row rfl (by rw [d2p, hk.1]) HE.nil), x4x, rfl⟩
 have hk := e3m (n := n) hp (by show same l.done (a0y (nl n (a3h n ls i)) l.proc) < l.done.length; omega)
 refine dv 7 ?_
 refine y3y (j := i) rfl rfl a8c rfl a0k rfl rfl (z0z hp) ?_
 refine dv 2 ?_
 refine x0x rfl rfl rfl (a3o true l 0 (keep n (a3h n ls i) l) (by omega) (by omega) (by have := f1z n (a3h n ls i) l; omega) (fun p hp => by have := hb4.2 p hp; omega)) ?_
 refine y3y (j := i) rfl rfl a8c rfl a0k rfl rfl (z0z hp) ?_
 refine u3u (el' := a2i l 0 (keep n (a3h n ls i) l)) rfl rfl a0k rfl rfl rfl hp rfl (s6s rfl) rfl rfl ?_
 refine dv 4 ?_
 refine u1u rfl rfl rfl (dv 1 ?_)
 exact ⟨i + 1, ⟨by omega, by omega⟩, [], (Cov.cons' (t := 3) rfl (by rw [c7v, hk.2, Bool.or_true]) (Cov.cons' (t := 4) rfl (by rw [x9x (by omega) (by omega)]; rfl) Cov.nil)), x6x, (HE.row rfl (by rw [d2p, hk.1]) HE.nil), x4x, rfl⟩
theorem b3t (c : Bool) (n m : Nd) (hn : wk n) (hm : wk m) (hid : n.id = m.id) (hv : 0 ≤ n.version ∧ n.version ≤ 9998) : Meth Tryz.prog 170 3 [0, 1, 2] [.agg (u2u c n), .agg [pI m.id, .pv (.bool m.up), pI m.inc, pI m.g, .ref 0 0, s1s true m.kept, q7q true m.outs, pI m.led, pI m.version, .ref 1 0, .ref 2 0, pI m.round, pI m.low]] [(0, (0, .row 44 5 ((m.lanes).map (q1q true)))), (1, (0, .row 190 3 ((m.views).map (a2l true)))), (2, (0, .row 3 1 (m.known.map a3i)))] (.agg [pI ({ m with version := a6p n m 3 } : Nd).id, .pv (.bool ({ m with version := a6p n m 3 } : Nd).up), pI ({ m with version := a6p n m 3 } : Nd).inc, pI ({ m with version := a6p n m 3 } : Nd).g, .ref 0 0, s1s true ({ m with version := a6p n m 3 } : Nd).kept, q7q true ({ m with version := a6p n m 3 } : Nd).outs, pI ({ m with version := a6p n m 3 } : Nd).led, pI ({ m with version := a6p n m 3 } : Nd).version, .ref 1 0, .ref 2 0, pI ({ m with version := a6p n m 3 } : Nd).round, pI ({ m with version := a6p n m 3 } : Nd).low]) [] := by
 refine mX Tryz.f170 [.agg [pI ({ m with version := a6p n m 3 } : Nd).id, .pv (.bool ({ m with version := a6p n m 3 } : Nd).up), pI ({ m with version := a6p n m 3 } : Nd).inc, pI ({ m with version := a6p n m 3 } : Nd).g, .ref 0 0, s1s true ({ m with version := a6p n m 3 } : Nd).kept, q7q true ({ m with version := a6p n m 3 } : Nd).outs, pI ({ m with version := a6p n m 3 } : Nd).led, pI ({ m with version := a6p n m 3 } : Nd).version, .ref 1 0, .ref 2 0, pI ({ m with version := a6p n m 3 } : Nd).round, pI ({ m with version := a6p n m 3 } : Nd).low]] 3 3 fun γ => ?_
 refine dv 1 ?_
 refine x8x (id := 3) rfl rfl rfl (x8x (id := 4) rfl rfl rfl (x2x (id := 5) u6u p9p rfl (dv 4 fun K K' => ?_)))
 refine x5x (ι := Nat) (fun k γ1 => [(5, pI (k : Int))]) (fun k γ1 => [(4, ((0 + 1), .box 65 [pI m.id, .pv (.bool m.up), pI m.inc, pI m.g, .ref 0 (γ 0), s1s true m.kept, q7q true m.outs, pI m.led, pI (a6p n m k), .ref 1 (γ 1), .ref 2 (γ 2), pI m.round, pI m.low]))]) (fun k => k ≤ 3) (fun k => 3 - k) (q3q [2, 3, 4] rfl) (a0j [0, 1, 2, 3, 5] rfl) 0 (by omega) [] x6x (HE.box rfl (by rfl) HE.nil) rfl fun k γ1 hi => ?_
 refine dc 4 (fun K K' => aS ?_ ?_)<;>intro o<;>try simp at o
 ·obtain rfl : k = 3 := by omega
  refine dv 5 ?_
  exact ⟨[γ 0, γ 1, γ 2], rfl, rfl, x4x⟩
 refine dc 9 (fun K K' => aS ?_ ?_)<;>intro hg5<;>try simp at hg5
 ·have hs : (k : Int) = m.id ∨ a1d n (k : Int) = a1d m (k : Int) := .inl hg5
  refine dv 12 ?_
  refine u1u rfl rfl rfl (dv 1 ?_)
  exact ⟨k + 1, ⟨by omega, by omega⟩, [], (Cov.cons' (t := 5) rfl (by rw [x9x (by omega) (by omega)]; rfl) Cov.nil), x6x, (HE.box rfl (by rw [e3q hid hs]) HE.nil), x4x, rfl⟩
 have hi0 : ¬ (k : Int) = m.id := hg5
 refine dv 2 ?_
 refine x0x rfl rfl rfl (a9p c n k (by omega) hn.2.2.2.1 (by have := d4t hn; omega) (by have := hn.1; omega)) ?_
 refine dv 2 ?_
 refine b2m rfl rfl rfl (c4q (n := ({ m with version := a6p n m k } : Nd)) rfl rfl rfl (.cl rfl .nil)) (a9p false ({ m with version := a6p n m k } : Nd) k (by omega) hm.2.2.2.1 (by have := d4t hm; show (r7r m).length ≤ 5000000; omega) (by have := hm.1; show m.lanes.length ≤ 1048576; omega)) (b1x _) ?_
 refine dv 0 ?_
 refine x0x rfl rfl rfl (c6p true true (a1d n (k : Int)) (a1d m (k : Int))) ?_
 refine dc 2 (aS ?_ ?_)<;>intro hc6<;>try simp at hc6
 ·have hs : (k : Int) = m.id ∨ a1d n (k : Int) = a1d m (k : Int) := .inr hc6
  refine dv 3 ?_
  refine u1u rfl rfl rfl (dv 1 ?_)
  exact ⟨k + 1, ⟨by omega, by omega⟩, [], (Cov.cons' (t := 5) rfl (by rw [x9x (by omega) (by omega)]; rfl) Cov.nil), x6x, (HE.box rfl (by rw [e3q hid hs]) HE.nil), x4x, rfl⟩
 have hd : ¬ a1d n (k : Int) = a1d m (k : Int) := hc6
 refine dv 3 ?_
 refine r1r (.int .i64 (n.version + 1)) rfl rfl rfl (a6o rfl rfl (by omega) (by omega)) ?_
 refine dv 4 ?_
 refine u1u rfl rfl rfl (dv 1 ?_)
 exact ⟨k + 1, ⟨by omega, by omega⟩, [], (Cov.cons' (t := 5) rfl (by rw [x9x (by omega) (by omega)]; rfl) Cov.nil), x6x, (HE.box rfl (by (rw [f2d hid hi0 hd] <;> rfl)) HE.nil), x4x, rfl⟩
end
section
theorem c5g (apps : List Ap) (n : Nd) (q : Int) (hn : ndI n) (hA : a7w apps) : MethE Tryz.prog 321 0 [a5p true apps, .agg (u2u true n), .pv (.int .i64 q)] [] (ι := Nd × Bool) (fun S' => ndI S'.1) (fun S' => []) (fun S' => .tup [.agg (u2u true S'.1), .pv (.bool (S'.2))]) (fun S' => []) := by
 refine mE (ι := Nd × Bool) Tryz.f321 (fun S' => [.agg (u2u true S'.1), .pv (.bool (S'.2))]) 0 10 fun γ => ?_
 have fK := hn.1
 have fS := fK.1
 have fB := v9v fS
 have fb := c0q fS
 have hb : ∀ a ∈ apps, ∀ r ∈ a.rules, r.ops.length ≤ 1048576 := fun a ha r hr => by obtain ⟨i, hi⟩ := List.getElem?_of_mem hr; have := ((hA.2 a ha).2 i r hi).2.1.2.1; omega
 refine dv 1 ?_
 refine x8x (id := 0) rfl rfl rfl (x2x (id := 1) u6u p9p rfl (dv 4 fun K K' => ?_))
 refine x0x rfl rfl rfl (p2p true n) (dc 1 (aI ?_ ?_))<;>intro hc2<;>try simp at hc2
 ·exact absurd fK (a1f (by simpa using hc2))
 refine dv 1 ?_
 refine a0d fun B X0 w0 => ?_
 refine txR 2 rfl rfl (dv 2 ?_)
 refine txM [] [] (c6n n q (by omega)) rfl rfl rfl rfl fun j hj => ?_
 refine txR 1 rfl rfl (dv 1 ?_)
 refine u0u rfl (dc 6 (fun K K' => aS ?_ ?_))<;>intro o<;>try simp at o
 ·refine dv 16 ?_
  refine rlM [7, 8, 9] [_, _, _] (y6y true n fb) rfl rfl rfl ?_
  refine dv 2 ?_
  (refine v5v (b := b9w true n.lanes) 1 4 rfl rfl rfl (.ref rfl (Le.ow_map _ (fun _ => rfl) (fun _ => rfl)) .nil) rfl rfl rfl rfl ?_; refine v5v (b := c1r true n.views) 1 9 rfl rfl rfl (.ref rfl (Le.ow_map _ (fun _ => rfl) (fun _ => rfl)) .nil) rfl rfl rfl rfl ?_; refine v5v (b := a4n true n.known) 1 10 rfl rfl rfl (.ref rfl (Le.ow_map _ (fun _ => rfl) (fun _ => rfl)) .nil) rfl rfl rfl rfl ?_)
  refine dv 1 ?_
  exact ⟨(n, false), hn, [], rfl, rfl, x4x⟩
 refine dv 1 ?_
 refine x0x rfl rfl rfl (b0m true apps hb) (dc 3 (aS ?_ ?_))<;>intro o<;>try simp at o
 ·refine dv 11 ?_
  refine rlM [7, 8, 9] [_, _, _] (y6y true n fb) rfl rfl rfl ?_
  refine dv 2 ?_
  (refine v5v (b := b9w true n.lanes) 1 4 rfl rfl rfl (.ref rfl (Le.ow_map _ (fun _ => rfl) (fun _ => rfl)) .nil) rfl rfl rfl rfl ?_; refine v5v (b := c1r true n.views) 1 9 rfl rfl rfl (.ref rfl (Le.ow_map _ (fun _ => rfl) (fun _ => rfl)) .nil) rfl rfl rfl rfl ?_; refine v5v (b := a4n true n.known) 1 10 rfl rfl rfl (.ref rfl (Le.ow_map _ (fun _ => rfl) (fun _ => rfl)) .nil) rfl rfl rfl rfl ?_)
  refine dv 1 ?_
  exact ⟨(n, false), hn, [], rfl, rfl, x4x⟩
 refine dc 4 (aS ?_ ?_)<;>intro o<;>try simp at o
 ·refine dv 7 ?_
  refine rlM [7, 8, 9] [_, _, _] (y6y true n fb) rfl rfl rfl ?_
  refine dv 2 ?_
  (refine v5v (b := b9w true n.lanes) 1 4 rfl rfl rfl (.ref rfl (Le.ow_map _ (fun _ => rfl) (fun _ => rfl)) .nil) rfl rfl rfl rfl ?_; refine v5v (b := c1r true n.views) 1 9 rfl rfl rfl (.ref rfl (Le.ow_map _ (fun _ => rfl) (fun _ => rfl)) .nil) rfl rfl rfl rfl ?_; refine v5v (b := a4n true n.known) 1 10 rfl rfl rfl (.ref rfl (Le.ow_map _ (fun _ => rfl) (fun _ => rfl)) .nil) rfl rfl rfl rfl ?_)
  refine dv 1 ?_
  exact ⟨(n, false), hn, [], rfl, rfl, x4x⟩
 refine dv 2 ?_
 refine x0x rfl rfl rfl (u7u ..) (dc 2 (aI ?_ ?_))<;>intro o<;>try simp at o
 ·refine dv 2 ?_
  refine rlM [7, 8, 9] [_, _, _] (y6y true n fb) rfl rfl rfl ?_
  refine dv 2 ?_
  (refine v5v (b := b9w true n.lanes) 1 4 rfl rfl rfl (.ref rfl (Le.ow_map _ (fun _ => rfl) (fun _ => rfl)) .nil) rfl rfl rfl rfl ?_; refine v5v (b := c1r true n.views) 1 9 rfl rfl rfl (.ref rfl (Le.ow_map _ (fun _ => rfl) (fun _ => rfl)) .nil) rfl rfl rfl rfl ?_; refine v5v (b := a4n true n.known) 1 10 rfl rfl rfl (.ref rfl (Le.ow_map _ (fun _ => rfl) (fun _ => rfl)) .nil) rfl rfl rfl rfl ?_)
  refine dv 1 ?_
  exact ⟨(n, false), hn, [], rfl, rfl, x4x⟩
 have hv9 : n.version < 9999 := by omega
 obtain ⟨i, l, hji, hl, hlp⟩ := hj.resolve_left (by omega)
 subst hji
 have hln := b4q fK hl
 have hp3 := (d2x hln.2.1).1
 obtain ⟨qn, rfl⟩ : ∃ qn : Nat, q = (qn : Int) := ⟨q.toNat, by omega⟩
 have hA4 := hA.1
 obtain ⟨a, ha⟩ := gE apps qn
 have hap := hA.2 a (List.mem_of_getElem? ha)
 have hv0 := fS.1.2.2.2.2.1.1
 refine dv 1 ?_
 refine c9z 12 (b4t p1p 0 12 rfl rfl ?_)
 refine dv 3 ?_
 refine u8u (out := .agg (b9g true a)) rfl a5u rfl ?_
 refine dv 4 ?_
 refine u8u (out := .agg (q1q true l)) rfl a0k rfl ?_
 refine dv 2 ?_
 refine x0x rfl rfl rfl (a4v true n (qn : Int) (a8y fS) (by omega) fS.2.2.2.2.2.1) ?_
 refine b4t p1p 16 1 rfl rfl ?_
 refine x2x (id := 2) a0k a6r rfl (b4v c3d (by rfl) [] [] (c5d a l (a0y n (qn : Int)) hap hln.2.1) rfl rfl rfl rfl (by decide) rfl rfl (by repeat (exact InH.nil)) (fun _ => (by (simp only [pI, a1z, a2b, b9v, gl, nx, a7c, Nat.beq]; rfl))) (fun _ => (by (simp only [pI, a1z, a2b, b9v, gl, nx, a7c, Nat.beq]; rfl))) (l, false) (by intro h; simp at h) fun r hr => ?_)
 refine b4u p1p 13 3 rfl rfl ?_
 refine dv 3 ?_
 refine b4u p1p 17 2 rfl rfl ?_
 refine dv 2 ?_
 refine c1t (by kernel_rfl) ?_
 refine dc 4 (fun K K' => aI ?_ ?_)<;>intro hc9<;>try simp at hc9
 ·refine dv 2 ?_
  refine rlM [7, 8, 9] [_, _, _] (y6y true n fb) rfl rfl rfl ?_
  refine dv 2 ?_
  (refine v5v (b := b9w true n.lanes) 1 4 rfl rfl rfl (.ref rfl (Le.ow_map _ (fun _ => rfl) (fun _ => rfl)) .nil) rfl rfl rfl rfl ?_; refine v5v (b := c1r true n.views) 1 9 rfl rfl rfl (.ref rfl (Le.ow_map _ (fun _ => rfl) (fun _ => rfl)) .nil) rfl rfl rfl rfl ?_; refine v5v (b := a4n true n.known) 1 10 rfl rfl rfl (.ref rfl (Le.ow_map _ (fun _ => rfl) (fun _ => rfl)) .nil) rfl rfl rfl rfl ?_)
  refine dv 1 ?_
  exact ⟨(n, false), hn, [], rfl, rfl, x4x⟩
 obtain ⟨p, hp1, hroom, hpb⟩ := hr hc9
 rw [hp1]
 have hwM := e8m (d9b fS) hl hroom hpb
 have hoM := e5l hn.2 hl hpb
 have hwA : wk (nl (nl n (n.lanes.set i (a2w l p))) (a0e (nl n (n.lanes.set i (a2w l p))) (nl n (n.lanes.set i (a2w l p))).lanes)) := c9v _ (Nat.le_refl _) hwM
 refine dv 3 ?_
 refine rlM [4, 5, 6] [_, _, _] (y6y true n fb) rfl rfl rfl ?_
 refine x2x (id := 3) u6u p9p rfl (dv 6 ?_)
 refine y3y (j := i) rfl rfl a8c rfl a0k rfl rfl (z0z hl) ?_
 refine u3u (el' := a2w l p) rfl rfl a0k rfl rfl rfl hl rfl (s6s rfl) rfl rfl ?_
 refine dv 3 ?_
 refine rlM [4, 5, 6] [_, _, _] (b5h (nl n (n.lanes.set i (a2w l p))) hwM) rfl rfl rfl ?_
 refine rlM [4, 5, 6] [_, _, _] (b3t true n (nl (nl n (n.lanes.set i (a2w l p))) (a0e (nl n (n.lanes.set i (a2w l p))) (nl n (n.lanes.set i (a2w l p))).lanes)) (d9b fS) hwA rfl ⟨hv0, by omega⟩) rfl rfl rfl ?_
 refine dv 2 fun K K' => ?_
 refine v5v (b := b9w true (b0s n (nl n (n.lanes.set i (a2w l p)))).lanes) 3 4 rfl rfl rfl (.ref rfl (Le.ow_map _ (fun _ => rfl) (fun _ => rfl)) .nil) rfl rfl rfl rfl ?_
 refine v5v (b := c1r true (b0s n (nl n (n.lanes.set i (a2w l p)))).views) 3 9 rfl rfl rfl (.ref rfl (Le.ow_map _ (fun _ => rfl) (fun _ => rfl)) .nil) rfl rfl rfl rfl ?_
 refine v5v (b := a4n true (b0s n (nl n (n.lanes.set i (a2w l p)))).known) 3 10 rfl rfl rfl (.ref rfl (Le.ow_map _ (fun _ => rfl) (fun _ => rfl)) .nil) rfl rfl rfl rfl ?_
 refine dv 2 ?_
 refine x0x rfl rfl rfl (p2p true (b0s n (nl n (n.lanes.set i (a2w l p))))) ?_
 refine dc 1 (aI ?_ ?_)<;>intro hc11<;>try simp at hc11
 ·refine dv 2 ?_
  refine rlM [7, 8, 9] [_, _, _] (y6y true n fb) rfl rfl rfl ?_
  refine dv 2 ?_
  (refine v5v (b := b9w true n.lanes) 1 4 rfl rfl rfl (.ref rfl (Le.ow_map _ (fun _ => rfl) (fun _ => rfl)) .nil) rfl rfl rfl rfl ?_; refine v5v (b := c1r true n.views) 1 9 rfl rfl rfl (.ref rfl (Le.ow_map _ (fun _ => rfl) (fun _ => rfl)) .nil) rfl rfl rfl rfl ?_; refine v5v (b := a4n true n.known) 1 10 rfl rfl rfl (.ref rfl (Le.ow_map _ (fun _ => rfl) (fun _ => rfl)) .nil) rfl rfl rfl rfl ?_)
  refine dv 1 ?_
  exact ⟨(n, false), hn, [], rfl, rfl, x4x⟩
 have fK2 : y4y (b0s n (nl n (n.lanes.set i (a2w l p)))) := a1c.1 (by simpa using hc11)
 have fb2 := c0q fK2.1
 refine dv 3 ?_
 refine rlM [7, 8, 9] [_, _, _] (y6y true (b0s n (nl n (n.lanes.set i (a2w l p)))) fb2) rfl rfl rfl ?_
 refine dv 2 ?_
 (refine v5v (b := b9w true (b0s n (nl n (n.lanes.set i (a2w l p)))).lanes) 1 4 rfl rfl rfl (.ref rfl (Le.ow_map _ (fun _ => rfl) (fun _ => rfl)) .nil) rfl rfl rfl rfl ?_; refine v5v (b := c1r true (b0s n (nl n (n.lanes.set i (a2w l p)))).views) 1 9 rfl rfl rfl (.ref rfl (Le.ow_map _ (fun _ => rfl) (fun _ => rfl)) .nil) rfl rfl rfl rfl ?_; refine v5v (b := a4n true (b0s n (nl n (n.lanes.set i (a2w l p)))).known) 1 10 rfl rfl rfl (.ref rfl (Le.ow_map _ (fun _ => rfl) (fun _ => rfl)) .nil) rfl rfl rfl rfl ?_)
 refine dv 1 ?_
 exact ⟨((b0s n (nl n (n.lanes.set i (a2w l p)))), true), ⟨fK2, c7z hoM⟩, [], rfl, rfl, x4x⟩
end
section
theorem b6k (c : Bool) (l : List Int) : a0t Tryz.prog 259 [a4n c l] (.pv (.bool (decide (c6k l)))) := by
 refine pX Tryz.f259 [.pv (.bool (decide (c6k l)))] 0 ?_
 refine u9u 0 rfl fun hlen => ?_
 refine dc 8 (fun K K' => aS ?_ ?_)<;>intro o<;>try simp at o
 ·refine dv 4 ?_
  have hL : l.length = 0 ∨ l.length = 3 := by (simp_all; done)
  refine dv 5 fun K K' => ?_
  refine x5x (ι := Nat) (fun i γ2 => [(3, pI (i : Int))]) (fun i γ2 => []) (fun i => i ≤ l.length ∧ d0v l (fun _ v => 0 ≤ v ∧ v ≤ 9999) i) (fun i => l.length - i) (y0y 0 rfl Cov.nil) HE.nil 0 ⟨by omega, a1u⟩ [] x6x x4x rfl fun i γ2 hi => ?_
  obtain ⟨h1, h2⟩ := hi
  refine dc 6 (fun K K' => aS ?_ ?_)<;>intro o<;>try simp at o
  ·have hall := a3t h2 (by omega)
   refine dv 4 ?_
   refine x3x rfl ?_ rfl
   exact kT ⟨hL, fun v hv => by obtain ⟨i, hi⟩ := List.getElem?_of_mem hv; exact hall i v hi⟩
  obtain ⟨v, hv⟩ := gE l i
  refine dv 8 fun K K' => ?_
  refine x0x rfl rfl rfl (u7u ..) (x0x rfl rfl rfl (z3z ..) (dc 1 (aS ?_ ?_)))<;>intro o<;>try simp at o
  ·have hb : 0 ≤ v ∧ v ≤ 9999 := by omega
   refine dv 3 ?_
   refine x7x (b := 1) rfl rfl (by omega) (dv 1 ?_)
   exact ⟨i + 1, ⟨⟨by omega, a0i h2 hv hb⟩, by omega⟩, [], x6x, x6x, x4x, x4x, rfl⟩
  have hX2 : ¬ (0 ≤ v ∧ v ≤ 9999) := by omega
  refine dv 3 ?_
  refine x3x rfl ?_ rfl
  exact kF (fun h => hX2 (h.2 v (List.mem_of_getElem? hv)))
 refine dc 4 (aI ?_ ?_)<;>intro o<;>try simp at o
 ·have hX : ¬ (l.length = 0 ∨ l.length = 3) := by (rintro (h | h); exact absurd (List.length_eq_zero_iff.1 h) ‹_›; omega)
  refine dv 3 ?_
  refine x3x rfl ?_ rfl
  exact kF (fun h => hX h.1)
 have hL : l.length = 0 ∨ l.length = 3 := by omega
 refine dv 5 fun K K' => ?_
 refine x5x (ι := Nat) (fun i γ1 => [(3, pI (i : Int))]) (fun i γ1 => []) (fun i => i ≤ l.length ∧ d0v l (fun _ v => 0 ≤ v ∧ v ≤ 9999) i) (fun i => l.length - i) (y0y 0 rfl Cov.nil) HE.nil 0 ⟨by omega, a1u⟩ [] x6x x4x rfl fun i γ1 hi => ?_
 obtain ⟨h1, h2⟩ := hi
 refine dc 6 (fun K K' => aS ?_ ?_)<;>intro o<;>try simp at o
 ·have hall := a3t h2 (by omega)
  refine dv 4 ?_
  refine x3x rfl ?_ rfl
  exact kT ⟨hL, fun v hv => by obtain ⟨i, hi⟩ := List.getElem?_of_mem hv; exact hall i v hi⟩
 obtain ⟨v, hv⟩ := gE l i
 refine dv 8 fun K K' => ?_
 refine x0x rfl rfl rfl (u7u ..) (x0x rfl rfl rfl (z3z ..) (dc 1 (aS ?_ ?_)))<;>intro o<;>try simp at o
 ·have hb : 0 ≤ v ∧ v ≤ 9999 := by omega
  refine dv 3 ?_
  refine x7x (b := 1) rfl rfl (by omega) (dv 1 ?_)
  exact ⟨i + 1, ⟨⟨by omega, a0i h2 hv hb⟩, by omega⟩, [], x6x, x6x, x4x, x4x, rfl⟩
 have hX2 : ¬ (0 ≤ v ∧ v ≤ 9999) := by omega
 refine dv 3 ?_
 refine x3x rfl ?_ rfl
 exact kF (fun h => hX2 (h.2 v (List.mem_of_getElem? hv)))
theorem b3j (c : Bool) (w : Wo) : a0t Tryz.prog 182 [.agg (v8v c w)] (.pv (.bool (decide (a4i w)))) := by
 refine pX Tryz.f182 [.pv (.bool (decide (a4i w)))] 1 ?_
 refine dv 1 ?_
 refine x8x (id := 0) rfl rfl rfl (dv 4 ?_)
 refine x0x rfl rfl rfl (z3z ..) (dc 1 (aS ?_ ?_))<;>intro o<;>try simp at o
 ·have hX : ¬ a6e w := by unfold a6e; omega
  refine dv 54 ?_
  refine x3x rfl ?_ rfl
  exact kF (fun h => hX h.1)
 refine dv 2 ?_
 refine x0x rfl rfl rfl (z3z ..) (dc 2 (aS ?_ ?_))<;>intro o<;>try simp at o
 ·have hX : ¬ a6e w := by unfold a6e; omega
  refine dv 49 ?_
  refine x3x rfl ?_ rfl
  exact kF (fun h => hX h.1)
 refine dv 2 ?_
 refine x0x rfl rfl rfl (z3z ..) (dc 2 (aS ?_ ?_))<;>intro o<;>try simp at o
 ·have hX : ¬ a6e w := by unfold a6e; omega
  refine dv 44 ?_
  refine x3x rfl ?_ rfl
  exact kF (fun h => hX h.1)
 refine dv 2 ?_
 refine x0x rfl rfl rfl (u7u ..) (dv 0 ?_)
 refine x0x rfl rfl rfl (z3z ..) (dc 2 (aS ?_ ?_))<;>intro o<;>try simp at o
 ·have hX : ¬ a6e w := by unfold a6e; omega
  refine dv 38 ?_
  refine x3x rfl ?_ rfl
  exact kF (fun h => hX h.1)
 refine dv 2 ?_
 refine x0x rfl rfl rfl (u7u ..) (dv 0 ?_)
 refine x0x rfl rfl rfl (z3z ..) (dc 2 (aS ?_ ?_))<;>intro o<;>try simp at o
 ·have hX : ¬ a6e w := by unfold a6e; omega
  refine dv 32 ?_
  refine x3x rfl ?_ rfl
  exact kF (fun h => hX h.1)
 refine dv 2 ?_
 refine x0x rfl rfl rfl (u7u ..) (dv 0 ?_)
 refine x0x rfl rfl rfl (z3z ..) (dc 2 (aS ?_ ?_))<;>intro o<;>try simp at o
 ·have hX : ¬ a6e w := by unfold a6e; omega
  refine dv 26 ?_
  refine x3x rfl ?_ rfl
  exact kF (fun h => hX h.1)
 refine dv 2 ?_
 refine x0x rfl rfl rfl (z3z ..) (dc 2 (aS ?_ ?_))<;>intro o<;>try simp at o
 ·have hX : ¬ a6e w := by unfold a6e; omega
  refine dv 21 ?_
  refine x3x rfl ?_ rfl
  exact kF (fun h => hX h.1)
 have hN : a6e w := by unfold a6e; omega
 refine dv 2 ?_
 refine x0x rfl rfl rfl (b6k ..) (dc 2 (aS ?_ ?_))<;>intro hg8<;>try simp at hg8
 ·have hX1 : ¬ c6k w.incs := hg8
  refine dv 16 ?_
  refine x3x rfl ?_ rfl
  exact kF (fun h => hX1 h.2.1)
 have hI : c6k w.incs := hg8
 refine dv 2 ?_
 refine x0x rfl rfl rfl (b6k ..) (dc 2 (aS ?_ ?_))<;>intro hg9<;>try simp at hg9
 ·have hX2 : ¬ c6k w.versions := hg9
  refine dv 11 ?_
  refine x3x rfl ?_ rfl
  exact kF (fun h => hX2 h.2.2.1)
 have hV : c6k w.versions := hg9
 refine dv 2 ?_
 refine x0x rfl rfl rfl (a4f ..) (dv 0 ?_)
 refine x0x rfl rfl rfl (a4c ..) (dc 2 (aS ?_ ?_))<;>intro hg10<;>try simp at hg10
 ·have hX3 : ¬ a9h okE a2q w.events 100 = true := by simpa using hg10
  refine dv 5 ?_
  refine x3x rfl ?_ rfl
  exact kF (fun h => hX3 h.2.2.2.1)
 have hE : a9h okE a2q w.events 100 = true := hg10
 refine dv 2 ?_
 refine x0x rfl rfl rfl (a8p ..) (dv 3 ?_)
 refine x3x rfl ?_ rfl
 exact congrArg (fun b : Bool => [AV.pv (.bool b)]) (Bool.eq_iff_iff.2 ⟨fun h => decide_eq_true ⟨hN, hI, hV, hE, h⟩, fun h => (of_decide_eq_true h).2.2.2.2⟩)
theorem a4w (c : Bool) (w : Wo) (hb : wob w) : a0t Tryz.prog 331 [.agg (v8v c w)] (.agg (v8v true w)) := by
 refine pX Tryz.f331 [.agg (v8v true w)] 10 ?_
 obtain ⟨b1, b2, b3, b4⟩ := hb
 refine dv 1 ?_
 refine x8x (id := 0) rfl rfl rfl (x2x (id := 1) p0p b0r rfl (dv 1 ?_))
 refine y1y (id := 2) a0l rfl s4s rfl (dv 2 ?_)
 refine a1w p1p (zs := (w.incs).map a3i) rfl rfl a0l rfl s4s rfl rfl rfl (z6z (fun _ => rfl) _) rfl (by (simp only [s3s, r0r, r5r, r8r, a0p, a2m, T3]; omega)) (Le.ow_map _ (fun _ => rfl) (fun _ => rfl)) ?_
 refine dv 3 ?_
 refine y1y (id := 4) a0l rfl s4s rfl (dv 2 ?_)
 refine a1w p1p (zs := (w.versions).map a3i) rfl rfl a0l rfl s4s rfl rfl rfl (z6z (fun _ => rfl) _) rfl (by (simp only [s3s, r0r, r5r, r8r, a0p, a2m, T3]; omega)) (Le.ow_map _ (fun _ => rfl) (fun _ => rfl)) ?_
 refine dv 3 ?_
 refine y1y (id := 6) u4u rfl z2z rfl (dv 2 ?_)
 refine a1w p1p (zs := (w.events).map y8y) rfl rfl u4u rfl z2z rfl rfl rfl (z6z (fun _ => rfl) _) rfl (by (simp only [s3s, r0r, r5r, r8r, a0p, a2m, T56]; omega)) (Le.ow_map _ (fun _ => rfl) (fun _ => rfl)) ?_
 refine dv 3 ?_
 refine y1y (id := 8) p5p rfl z9z rfl (dv 2 ?_)
 refine a1w p1p (zs := (w.outs).map w3w) rfl rfl p5p rfl z9z rfl rfl rfl (z6z (fun _ => rfl) _) rfl (by (simp only [s3s, r0r, r5r, r8r, a0p, a2m, T141]; omega)) (Le.ow_map _ (fun _ => rfl) (fun _ => rfl)) ?_
 refine dv 6 ?_
 exact a6s rfl rfl rfl rfl
theorem b0y (c : Bool) (l : List Wo) (k : Int) : a0t Tryz.prog 333 [w7w c l, .pv (.int .i64 k)] (.pv (.bool (kb (b3z l k ∧ (k = 3 → ∀ w ∈ l, a9z w))))) := by
 refine pX Tryz.f333 [.pv (.bool (kb (b3z l k ∧ (k = 3 → ∀ w ∈ l, a9z w))))] 0 ?_
 refine u9u 0 rfl fun hlen => ?_
 refine dv 6 fun K K' => ?_
 refine x5x (ι := Nat) (fun i γ1 => [(5, pI (i : Int))]) (fun i γ1 => []) (fun i => i ≤ l.length ∧ d0v l (fun j w => a4i w ∧ w.kind = k ∧ (∀ p, 0 < j → l[j - 1]? = some p → p.from' < w.from') ∧ (k = 3 → a9z w)) i) (fun i => l.length - i) (q3q [0, 1] rfl) HE.nil 0 ⟨by omega, a1u⟩ [] x6x x4x rfl fun i γ1 hi => ?_
 obtain ⟨h1, h2⟩ := hi
 refine dc 6 (fun K K' => aS ?_ ?_)<;>intro o<;>try simp at o
 ·have hall := a3t h2 (by omega)
  refine dv 4 ?_
  refine x3x rfl ?_ rfl
  exact congrArg (fun b : Bool => [AV.pv (.bool b)]) (e2x ⟨fun j w hw => ⟨(hall j w hw).1, (hall j w hw).2.1, (hall j w hw).2.2.1⟩, fun e w hw => by obtain ⟨j, hj⟩ := List.getElem?_of_mem hw; exact (hall j w hj).2.2.2 e⟩)
 obtain ⟨w, hw⟩ := gE l i
 refine dv 8 fun K K' K K' => ?_
 refine u8u (out := .agg (v8v c w)) rfl p0p rfl ?_
 refine x0x rfl rfl rfl (b3j ..) (dc 2 (aS ?_ ?_))<;>intro hg6<;>try simp at hg6
 ·have hX : ¬ a4i w := hg6
  refine dv 26 ?_
  try have hXo : ¬ p.from' < w.from' := by omega
  refine dv 3 ?_
  refine x3x rfl ?_ rfl
  exact congrArg (fun b : Bool => [AV.pv (.bool b)]) (a5o (fun h => hX (h.1 i w hw).1))
 have hW : a4i w := hg6
 refine dc 9 (aS ?_ ?_)<;>intro hg7<;>try simp at hg7
 ·try have hXk : ¬ w.kind = k := hg7
  refine dv 17 ?_
  try have hXo : ¬ p.from' < w.from' := by omega
  refine dv 3 ?_
  refine x3x rfl ?_ rfl
  exact congrArg (fun b : Bool => [AV.pv (.bool b)]) (a5o (fun h => hXk (h.1 i w hw).2.1))
 have hk : w.kind = k := hg7
 refine dc 3 (aS ?_ ?_)<;>intro o<;>try simp at o
 ·have hi0 : i = 0 := by omega
  have hO : ∀ p, 0 < i → l[i - 1]? = some p → p.from' < w.from' := fun p h => by omega
  refine dv 14 ?_
  try have hO : ∀ p, 0 < i → l[i - 1]? = some p → p.from' < w.from' := fun p2 _ h => by rw [hp] at h; cases h; omega
  refine dc 5 (aS ?_ ?_)<;>intro o<;>try simp at o
  ·refine dv 17 ?_
   have hF : k = 3 → a9z w := by intro _; exact ⟨by omega, by omega⟩
   refine dv 3 ?_
   refine x7x (b := 1) rfl rfl (by omega) (dv 1 ?_)
   exact ⟨i + 1, ⟨⟨by omega, a0i h2 hw ⟨hW, hk, hO, hF⟩⟩, by omega⟩, [], x6x, x6x, x4x, x4x, rfl⟩
  refine dc 8 (aS ?_ ?_)<;>intro o<;>try simp at o
  ·refine dv 9 ?_
   have hX5 : ¬ (k = 3 → a9z w) := fun h => by have := h (by omega); unfold a9z at this; omega
   refine dv 3 ?_
   refine x3x rfl ?_ rfl
   exact congrArg (fun b : Bool => [AV.pv (.bool b)]) (a5o (fun h => hX5 (fun e => h.2 e w (List.mem_of_getElem? hw))))
  refine dc 9 (aS ?_ ?_)<;>intro o<;>try simp at o
  ·have hF : k = 3 → a9z w := by intro _; exact ⟨by omega, by omega⟩
   refine dv 3 ?_
   refine x7x (b := 1) rfl rfl (by omega) (dv 1 ?_)
   exact ⟨i + 1, ⟨⟨by omega, a0i h2 hw ⟨hW, hk, hO, hF⟩⟩, by omega⟩, [], x6x, x6x, x4x, x4x, rfl⟩
  have hX5 : ¬ (k = 3 → a9z w) := fun h => by have := h (by omega); unfold a9z at this; omega
  refine dv 3 ?_
  refine x3x rfl ?_ rfl
  exact congrArg (fun b : Bool => [AV.pv (.bool b)]) (a5o (fun h => hX5 (fun e => h.2 e w (List.mem_of_getElem? hw))))
 obtain ⟨p, hp⟩ := gE l (i - 1)
 refine dv 2 ?_
 refine w6w (b := 1) rfl rfl (by omega) (by omega) (dc 11 (aI ?_ ?_))<;>intro o<;>try simp at o
 ·try have hXo : ¬ p.from' < w.from' := by omega
  refine dv 3 ?_
  refine x3x rfl ?_ rfl
  exact congrArg (fun b : Bool => [AV.pv (.bool b)]) (a5o (fun h => hXo ((h.1 i w hw).2.2 p (by omega) hp)))
 try have hO : ∀ p, 0 < i → l[i - 1]? = some p → p.from' < w.from' := fun p2 _ h => by rw [hp] at h; cases h; omega
 refine dc 5 (aS ?_ ?_)<;>intro o<;>try simp at o
 ·refine dv 17 ?_
  have hF : k = 3 → a9z w := by intro _; exact ⟨by omega, by omega⟩
  refine dv 3 ?_
  refine x7x (b := 1) rfl rfl (by omega) (dv 1 ?_)
  exact ⟨i + 1, ⟨⟨by omega, a0i h2 hw ⟨hW, hk, hO, hF⟩⟩, by omega⟩, [], x6x, x6x, x4x, x4x, rfl⟩
 refine dc 8 (aS ?_ ?_)<;>intro o<;>try simp at o
 ·refine dv 9 ?_
  have hX5 : ¬ (k = 3 → a9z w) := fun h => by have := h (by omega); unfold a9z at this; omega
  refine dv 3 ?_
  refine x3x rfl ?_ rfl
  exact congrArg (fun b : Bool => [AV.pv (.bool b)]) (a5o (fun h => hX5 (fun e => h.2 e w (List.mem_of_getElem? hw))))
 refine dc 9 (aS ?_ ?_)<;>intro o<;>try simp at o
 ·have hF : k = 3 → a9z w := by intro _; exact ⟨by omega, by omega⟩
  refine dv 3 ?_
  refine x7x (b := 1) rfl rfl (by omega) (dv 1 ?_)
  exact ⟨i + 1, ⟨⟨by omega, a0i h2 hw ⟨hW, hk, hO, hF⟩⟩, by omega⟩, [], x6x, x6x, x4x, x4x, rfl⟩
 have hX5 : ¬ (k = 3 → a9z w) := fun h => by have := h (by omega); unfold a9z at this; omega
 refine dv 3 ?_
 refine x3x rfl ?_ rfl
 exact congrArg (fun b : Bool => [AV.pv (.bool b)]) (a5o (fun h => hX5 (fun e => h.2 e w (List.mem_of_getElem? hw))))
theorem b0n (c : Bool) (h : Hb) : a0t Tryz.prog 323 [.agg (a8n c h)] (.pv (.bool (kb (a0v h)))) := by
 refine pX Tryz.f323 [.pv (.bool (kb (a0v h)))] 1 ?_
 refine dv 1 ?_
 refine x8x (id := 0) rfl rfl rfl (dv 4 ?_)
 refine x0x rfl rfl rfl (u7u ..) (x0x rfl rfl rfl (z3z ..) (dc 1 (aS ?_ ?_)))<;>intro o<;>try simp at o
 ·have hX : ¬ (0 ≤ h.round ∧ h.round ≤ 9999) := by omega
  refine dv 15 ?_
  refine x3x rfl ?_ rfl
  exact congrArg (fun b : Bool => [AV.pv (.bool b)]) (a5o (fun h => hX h.1))
 have hR : 0 ≤ h.round ∧ h.round ≤ 9999 := by omega
 refine dv 2 ?_
 refine x0x rfl rfl rfl (b0y ..) (dc 2 (aS ?_ ?_))<;>intro hg2<;>try simp at hg2
 ·have hX1 : ¬ (b3z h.ones 3 ∧ ((3 : Int) = 3 → ∀ w ∈ h.ones, a9z w)) := a1f (by simpa using hg2)
  refine dv 10 ?_
  refine x3x rfl ?_ rfl
  exact congrArg (fun b : Bool => [AV.pv (.bool b)]) (a5o (fun h => hX1 ⟨h.2.1, fun _ => h.2.2.2.2⟩))
 have h1 : b3z h.ones 3 ∧ ((3 : Int) = 3 → ∀ w ∈ h.ones, a9z w) := a1c.1 (by simpa using hg2)
 refine dv 2 ?_
 refine x0x rfl rfl rfl (b0y ..) (dc 2 (aS ?_ ?_))<;>intro hg3<;>try simp at hg3
 ·have hX2 : ¬ (b3z h.twos 5 ∧ ((5 : Int) = 3 → ∀ w ∈ h.twos, a9z w)) := a1f (by simpa using hg3)
  refine dv 5 ?_
  refine x3x rfl ?_ rfl
  exact congrArg (fun b : Bool => [AV.pv (.bool b)]) (a5o (fun h => hX2 ⟨h.2.2.1, fun e => by omega⟩))
 have h2 : b3z h.twos 5 ∧ ((5 : Int) = 3 → ∀ w ∈ h.twos, a9z w) := a1c.1 (by simpa using hg3)
 refine dv 2 ?_
 refine x0x rfl rfl rfl (b0y ..) (dv 3 ?_)
 refine x3x rfl ?_ rfl
 exact congrArg (fun b : Bool => [AV.pv (.bool b)]) (congrArg kb (propext ⟨fun h => ⟨hR, h1.1, h2.1, h.1, h1.2 rfl⟩, fun h => ⟨h.2.2.2.1, fun e => by omega⟩⟩))
end
section
theorem a9q (c : Bool) (l : List Wo) (hb : ∀ w ∈ l, wob w) (hl : l.length ≤ 1000000) : a0t Tryz.prog 334 [w7w c l] (w7w true l) := by
 refine pX Tryz.f334 [w7w true l] 3 ?_
 refine dv 3 ?_
 refine y1y (id := 0) r6r rfl p0p rfl (dv 5 fun K K' => ?_)
 refine x5x (ι := Nat) (fun i γ1 => [(3, .ref 0 (γ1 0)), (4, pI (i : Int))]) (fun i γ1 => [(0, ((γ1 0), .row 79 11 ((l.take i).map (v8v true)))), (1, ((γ1 1), .dead)), (2, ((γ1 2), .dead))]) (fun i => i ≤ l.length) (fun i => l.length - i) (y0y 0 rfl Cov.nil) HE.nil 0 (by omega) [_, _, _] x6x (HE.row rfl (by rw [List.take_zero]; rfl) (HE.kill rfl (HE.kill rfl HE.nil))) rfl fun i γ1 hi => ?_
 refine dc 6 (fun K K' => aS ?_ ?_)<;>intro u<;>try simp at u
 ·obtain rfl : i = l.length := by omega
  refine dv 5 ?_
  refine a5d rfl rfl (fun _ => rfl) ?_
  rw [List.take_length]
 obtain ⟨w, hw⟩ := gE l i
 have hwb := hb w (List.mem_of_getElem? hw)
 refine dv 8 fun K K' => ?_
 refine u8u (out := .agg (v8v c w)) rfl p0p rfl ?_
 refine x0x rfl rfl rfl (a4w c w hwb) (y2y (id := 1) r6r rfl p0p rfl rfl rfl rfl rfl rfl ?_)
 refine y7y (zs := (l.take i ++ [w]).map (v8v true)) rfl rfl r6r rfl p0p rfl rfl rfl rfl (by rfl) (z7z _ _ _) (by (simp only [s3s, r0r, r5r, r8r, a0p, a2m, T79]; omega)) ?_
 refine dv 3 ?_
 refine u1u rfl rfl rfl (dv 1 ?_)
 exact ⟨i + 1, ⟨by omega, by omega⟩, [_, _, _], (y0y 3 rfl (Cov.cons' (t := 4) rfl (by rw [x9x (by omega) (by omega)]; rfl) Cov.nil)), x6x, (HE.row rfl (by rw [z8z hw]) (HE.kill rfl (HE.kill rfl HE.nil))), x4x, rfl⟩
theorem a3p (c : Bool) (h : Hb) (hk : a0v h) : a0t Tryz.prog 324 [.agg (a8n c h)] (.agg (a8n true h)) := by
 refine pX Tryz.f324 [.agg (a8n true h)] 2 ?_
 have e1 := b7p hk.2.1
 have e2 := b7p hk.2.2.1
 have e3 := b7p hk.2.2.2.1
 refine dv 1 ?_
 refine x8x (id := 0) rfl rfl rfl (x2x (id := 1) a7q b6y rfl (dv 5 ?_))
 refine x0x rfl rfl rfl (a9q c h.ones (d5b hk.2.1) (by omega)) ?_
 refine dv 2 ?_
 refine x0x rfl rfl rfl (a9q c h.twos (d5b hk.2.2.1) (by omega)) ?_
 refine dv 2 ?_
 refine x0x rfl rfl rfl (a9q c h.outs (d5b hk.2.2.2.1) (by omega)) ?_
 refine rlB a7q b6y ?_
 refine dv 2 ?_
 exact a6s rfl rfl rfl rfl
theorem a8q (l : List Wo) (w : Wo) (ag : Bool) (hl : l.length ≤ 1000000) : a0t Tryz.prog 330 [w7w true l, .agg (v8v true w), .pv (.bool (ag))] (w7w true (a7x w ag l false)) := by
 refine pX Tryz.f330 [w7w true (a7x w ag l false)] 10 ?_
 refine dv 1 ?_
 refine x8x (id := 0) rfl rfl rfl (dv 2 ?_)
 refine y1y (id := 1) r6r rfl p0p rfl (dv 7 fun K K' => ?_)
 refine x5x (ι := List Wo × Bool × Nat) (fun p γ1 => [(7, .ref 1 (γ1 1)), (8, .pv (.bool (p.2.1))), (9, pI (p.2.2 : Int))]) (fun p γ1 => [(1, ((γ1 1), .row 79 11 ((p.1).map (v8v true)))), (2, ((γ1 2), .dead)), (3, ((γ1 3), .dead)), (4, ((γ1 4), .dead)), (5, ((γ1 5), .dead)), (6, ((γ1 6), .dead)), (7, ((γ1 7), .dead))]) (fun p => p.2.2 ≤ l.length ∧ p.1.length ≤ 2 * p.2.2 ∧ p.1 ++ a7x w ag (l.drop p.2.2) p.2.1 = a7x w ag l false) (fun p => l.length - p.2.2) (q3q [0, 2, 4] rfl) (a0j [0, 8, 9] rfl) ([], false, 0) ⟨by show 0 ≤ _; omega, by show 0 ≤ _; omega, rfl⟩ [0, _, _, _, _, _, _, _] x6x x4x rfl fun p γ1 hi => ?_
 obtain ⟨o, d, i⟩ := p
 obtain ⟨h1, h2, h3⟩ := hi
 dsimp only at h1 h2 h3 ⊢
 refine dc 6 (fun K K' => aS ?_ ?_)<;>intro u<;>try simp at u
 ·obtain rfl : i = l.length := by omega
  rw [List.drop_length] at h3
  refine dc 5 (fun K K' => aS ?_ ?_)<;>intro hc15<;>try simp at hc15
  ·obtain rfl : d = true := hc15
   refine dv 5 ?_
   refine a5d rfl rfl (fun _ => rfl) ?_
   (rw [← h3]; exact (List.append_nil _).symm)
  obtain rfl : d = false := hc15
  refine dv 3 ?_
  refine y2y (id := 8) r6r rfl p0p rfl rfl rfl rfl rfl rfl ?_
  refine y7y (zs := (o ++ [w]).map (v8v true)) rfl rfl r6r rfl p0p rfl rfl rfl rfl (by rfl) (z7z _ _ _) (by (simp only [s3s, r0r, r5r, r8r, a0p, a2m, T79]; omega)) ?_
  refine dv 5 ?_
  refine a5d rfl rfl (fun _ => rfl) ?_
  exact h3
 obtain ⟨x, hx⟩ := gE l i
 refine dc 13 (fun K K' K K' => aI ?_ ?_)<;>intro hc6<;>try simp at hc6
 ·have hq : x.from' = w.from' := hc6
  refine dc 4 (aI ?_ ?_)<;>intro hc7<;>try simp at hc7
  ·obtain rfl : ag = true := hc7
   have hN : i + 1 ≤ l.length ∧ (o ++ [w]).length ≤ 2 * (i + 1) ∧ (o ++ [w]) ++ a7x w true (l.drop (i + 1)) true = a7x w true l false := ⟨by omega, by simp only [r0r, r5r, r8r]; omega, b3g h3 (by rw [p6p hx]; exact f5q hq)⟩
   refine dv 3 ?_
   refine y2y (id := 2) r6r rfl p0p rfl rfl rfl rfl rfl rfl ?_
   refine y7y (zs := (o ++ [w]).map (v8v true)) rfl rfl r6r rfl p0p rfl rfl rfl rfl (by rfl) (z7z _ _ _) (by (simp only [s3s, r0r, r5r, r8r, a0p, a2m, T79]; omega)) ?_
   refine dv 4 ?_
   refine x7x (b := 1) rfl rfl (by omega) (dv 1 ?_)
   exact ⟨(_, _, _), ⟨hN, (by show l.length - (i + 1) < l.length - i; omega)⟩, [0, _, _, _, _, _, _, _], x6x, x6x, x4x, x4x, rfl⟩
  obtain rfl : ag = false := hc7
  have hN : i + 1 ≤ l.length ∧ (o ++ [x]).length ≤ 2 * (i + 1) ∧ (o ++ [x]) ++ a7x w false (l.drop (i + 1)) true = a7x w false l false := ⟨by omega, by simp only [r0r, r5r, r8r]; omega, b3g h3 (by rw [p6p hx]; exact f5r hq)⟩
  refine dv 16 fun K K' => ?_
  try have hN : i + 1 ≤ l.length ∧ (o ++ [x]).length ≤ 2 * (i + 1) ∧ (o ++ [x]) ++ a7x w ag (l.drop (i + 1)) false = a7x w ag l false := ⟨by omega, by simp only [r0r, r5r, r8r]; omega, b3g h3 (by rw [p6p hx]; exact d7r hq (by rintro ⟨_, h⟩; omega))⟩
  refine dv 6 ?_
  refine u8u (out := .agg (v8v true x)) rfl p0p rfl ?_
  refine y2y (id := 6) r6r rfl p0p rfl rfl rfl rfl rfl rfl ?_
  refine y7y (zs := (o ++ [x]).map (v8v true)) rfl rfl r6r rfl p0p rfl rfl rfl rfl (by rfl) (z7z _ _ _) (by (simp only [s3s, r0r, r5r, r8r, a0p, a2m, T79]; omega)) ?_
  refine dv 3 ?_
  refine x7x (b := 1) rfl rfl (by omega) (dv 1 ?_)
  exact ⟨(_, _, _), ⟨hN, (by show l.length - (i + 1) < l.length - i; omega)⟩, [0, _, _, _, _, _, _, _], x6x, x6x, x4x, x4x, rfl⟩
 have hq : ¬ x.from' = w.from' := hc6
 refine dc 6 (fun K K' => aS ?_ ?_)<;>intro hg11<;>try simp at hg11
 ·obtain rfl : d = true := hg11
  have hN : i + 1 ≤ l.length ∧ (o ++ [x]).length ≤ 2 * (i + 1) ∧ (o ++ [x]) ++ a7x w ag (l.drop (i + 1)) true = a7x w ag l false := ⟨by omega, by simp only [r0r, r5r, r8r]; omega, b3g h3 (by rw [p6p hx]; exact d7r hq (by simp))⟩
  refine dv 9 ?_
  try have hN : i + 1 ≤ l.length ∧ (o ++ [x]).length ≤ 2 * (i + 1) ∧ (o ++ [x]) ++ a7x w ag (l.drop (i + 1)) false = a7x w ag l false := ⟨by omega, by simp only [r0r, r5r, r8r]; omega, b3g h3 (by rw [p6p hx]; exact d7r hq (by rintro ⟨_, h⟩; omega))⟩
  refine dv 6 ?_
  refine u8u (out := .agg (v8v true x)) rfl p0p rfl ?_
  refine y2y (id := 6) r6r rfl p0p rfl rfl rfl rfl rfl rfl ?_
  refine y7y (zs := (o ++ [x]).map (v8v true)) rfl rfl r6r rfl p0p rfl rfl rfl rfl (by rfl) (z7z _ _ _) (by (simp only [s3s, r0r, r5r, r8r, a0p, a2m, T79]; omega)) ?_
  refine dv 3 ?_
  refine x7x (b := 1) rfl rfl (by omega) (dv 1 ?_)
  exact ⟨(_, _, _), ⟨hN, (by show l.length - (i + 1) < l.length - i; omega)⟩, [0, _, _, _, _, _, _, _], x6x, x6x, x4x, x4x, rfl⟩
 obtain rfl : d = false := hg11
 refine dc 9 (aS ?_ ?_)<;>intro u<;>try simp at u
 ·try have hN : i + 1 ≤ l.length ∧ (o ++ [x]).length ≤ 2 * (i + 1) ∧ (o ++ [x]) ++ a7x w ag (l.drop (i + 1)) false = a7x w ag l false := ⟨by omega, by simp only [r0r, r5r, r8r]; omega, b3g h3 (by rw [p6p hx]; exact d7r hq (by rintro ⟨_, h⟩; omega))⟩
  refine dv 6 ?_
  refine u8u (out := .agg (v8v true x)) rfl p0p rfl ?_
  refine y2y (id := 6) r6r rfl p0p rfl rfl rfl rfl rfl rfl ?_
  refine y7y (zs := (o ++ [x]).map (v8v true)) rfl rfl r6r rfl p0p rfl rfl rfl rfl (by rfl) (z7z _ _ _) (by (simp only [s3s, r0r, r5r, r8r, a0p, a2m, T79]; omega)) ?_
  refine dv 3 ?_
  refine x7x (b := 1) rfl rfl (by omega) (dv 1 ?_)
  exact ⟨(_, _, _), ⟨hN, (by show l.length - (i + 1) < l.length - i; omega)⟩, [0, _, _, _, _, _, _, _], x6x, x6x, x4x, x4x, rfl⟩
 have hN : i + 1 ≤ l.length ∧ (o ++ [w] ++ [x]).length ≤ 2 * (i + 1) ∧ (o ++ [w] ++ [x]) ++ a7x w ag (l.drop (i + 1)) true = a7x w ag l false := ⟨by omega, by simp only [r0r, r5r, r8r]; omega, by rw [List.append_assoc o]; exact b3g h3 (by rw [p6p hx]; exact f5s hq (by omega))⟩
 refine dv 3 ?_
 refine y2y (id := 4) r6r rfl p0p rfl rfl rfl rfl rfl rfl ?_
 refine y7y (zs := (o ++ [w]).map (v8v true)) rfl rfl r6r rfl p0p rfl rfl rfl rfl (by rfl) (z7z _ _ _) (by (simp only [s3s, r0r, r5r, r8r, a0p, a2m, T79]; omega)) ?_
 refine dv 8 ?_
 refine u8u (out := .agg (v8v true x)) rfl p0p rfl ?_
 refine y2y (id := 6) r6r rfl p0p rfl rfl rfl rfl rfl rfl ?_
 refine y7y (zs := (o ++ [w] ++ [x]).map (v8v true)) rfl rfl r6r rfl p0p rfl rfl rfl rfl (by rfl) (z7z _ _ _) (by (simp only [s3s, r0r, r5r, r8r, a0p, a2m, T79]; omega)) ?_
 refine dv 3 ?_
 refine x7x (b := 1) rfl rfl (by omega) (dv 1 ?_)
 exact ⟨(_, _, _), ⟨hN, (by show l.length - (i + 1) < l.length - i; omega)⟩, [0, _, _, _, _, _, _, _], x6x, x6x, x4x, x4x, rfl⟩
theorem b9m (k f t i0 v r g : Int) : a0t Tryz.prog 325 [.agg [pI k, pI f, pI t, pI i0, pI v, pI r, pI g, .pv (.slice none 0 0), .pv (.slice none 0 0), .pv (.slice none 0 0), .pv (.slice none 0 0)]] (w7w true (e6d ⟨k, f, t, i0, v, r, g, [], [], [], []⟩)) := by
 refine pX Tryz.f325 [w7w true (e6d ⟨k, f, t, i0, v, r, g, [], [], [], []⟩)] 4 ?_
 refine dv 1 ?_
 refine x8x (id := 0) rfl rfl rfl (dv 2 ?_)
 refine y1y (id := 1) r6r rfl p0p rfl (dv 5 fun K K' => ?_)
 refine x5x (ι := Nat) (fun i γ1 => [(3, .ref 1 (γ1 1)), (4, pI ((i + 1 : Nat) : Int))]) (fun i γ1 => [(1, ((γ1 1), .row 79 11 ((List.range i).map fun (j : Nat) => [pI k, pI f, pI ((j + 1 : Nat) : Int), pI i0, pI v, pI r, pI g, .pv (.slice none 0 0), .pv (.slice none 0 0), .pv (.slice none 0 0), .pv (.slice none 0 0)]))), (0, ((0 + 1), .box 79 [pI k, pI f, pI (if i = 0 then t else ((i : Nat) : Int)), pI i0, pI v, pI r, pI g, .pv (.slice none 0 0), .pv (.slice none 0 0), .pv (.slice none 0 0), .pv (.slice none 0 0)])), (2, ((γ1 2), .dead)), (3, ((γ1 3), .dead))]) (fun i => i ≤ 2) (fun i => 2 - i) (y0y 1 rfl Cov.nil) HE.nil 0 (by omega) [0, _, _, _] x6x (HE.row rfl (by rfl) (HE.box rfl (by rfl) (HE.kill rfl (HE.kill rfl HE.nil)))) rfl fun i γ1 hi => ?_
 refine dc 4 (fun K K' => aS ?_ ?_)<;>intro u<;>try simp at u
 ·obtain rfl : i = 2 := by omega
  refine dv 4 ?_
  refine d1x (f := fun (j : Nat) => [pI k, pI f, pI ((j + 1 : Nat) : Int), pI i0, pI v, pI r, pI g, .pv (.slice none 0 0), .pv (.slice none 0 0), .pv (.slice none 0 0), .pv (.slice none 0 0)]) (f' := fun (j : Nat) => v8v true ⟨k, f, ((j + 1 : Nat) : Int), i0, v, r, g, [], [], [], []⟩) (l := List.range 2) 1 rfl (fun _ => .same (.same (.same (.same (.same (.same (.same (.le rfl .nil rfl (.le rfl .nil rfl (.le rfl .nil rfl (.le rfl .nil rfl .nil))))))))))) ?_
  refine dv 1 ?_
  exact a5d (l := List.range 2) (l' := List.range 2) (f := fun (j : Nat) => v8v true ⟨k, f, ((j + 1 : Nat) : Int), i0, v, r, g, [], [], [], []⟩) rfl rfl (fun _ => rfl) rfl
 refine dv 10 fun K K' => ?_
 refine y2y (id := 2) r6r rfl p0p rfl rfl rfl rfl rfl rfl ?_
 refine y7y (zs := ((List.range i).map fun (j : Nat) => [pI k, pI f, pI ((j + 1 : Nat) : Int), pI i0, pI v, pI r, pI g, .pv (.slice none 0 0), .pv (.slice none 0 0), .pv (.slice none 0 0), .pv (.slice none 0 0)]) ++ [[pI k, pI f, pI ((i + 1 : Nat) : Int), pI i0, pI v, pI r, pI g, .pv (.slice none 0 0), .pv (.slice none 0 0), .pv (.slice none 0 0), .pv (.slice none 0 0)]]) rfl rfl r6r rfl p0p rfl rfl rfl rfl (by rfl) rfl (by (simp only [s3s, r0r, r5r, r8r, a0p, a2m, T79]; omega)) ?_
 refine dv 3 ?_
 refine x7x (b := 1) rfl rfl (by omega) (dv 1 ?_)
 exact ⟨i + 1, ⟨by omega, by omega⟩, [0, _, _, _], x6x, x6x, (HE.row rfl (by rw [List.range_succ, List.map_append]; rfl) (HE.box rfl (by rw [if_neg (by omega : ¬ i + 1 = 0)] <;> rfl) (HE.kill rfl (HE.kill rfl HE.nil)))), x4x, rfl⟩
theorem c5h (k f t i0 v r g : Int) : Meth Tryz.prog 325 1 [] [.agg [pI k, pI f, pI t, pI i0, pI v, pI r, pI g, .pv (.slice none 0 0), .pv (.slice none 0 0), .pv (.slice none 0 0), .pv (.slice none 0 0)]] [(0, (0, .dead))] (.ref 0 0) [(0, (0, .row 79 11 ((e6d ⟨k, f, t, i0, v, r, g, [], [], [], []⟩).map (v8v true))))] := by
 refine mX Tryz.f325 [.ref 0 0] 1 3 fun γ => ?_
 refine dv 1 ?_
 refine x8x (id := 1) rfl rfl rfl (dv 2 ?_)
 refine y1y (id := 0) r6r rfl p0p rfl (dv 5 fun K K' => ?_)
 refine x5x (ι := Nat) (fun i γ1 => [(3, .ref 0 (γ1 0)), (4, pI ((i + 1 : Nat) : Int))]) (fun i γ1 => [(0, ((γ1 0), .row 79 11 ((List.range i).map fun (j : Nat) => [pI k, pI f, pI ((j + 1 : Nat) : Int), pI i0, pI v, pI r, pI g, .pv (.slice none 0 0), .pv (.slice none 0 0), .pv (.slice none 0 0), .pv (.slice none 0 0)]))), (1, ((0 + 1), .box 79 [pI k, pI f, pI (if i = 0 then t else ((i : Nat) : Int)), pI i0, pI v, pI r, pI g, .pv (.slice none 0 0), .pv (.slice none 0 0), .pv (.slice none 0 0), .pv (.slice none 0 0)])), (2, ((γ1 2), .dead)), (3, ((γ1 3), .dead))]) (fun i => i ≤ 2) (fun i => 2 - i) (y0y 1 rfl Cov.nil) HE.nil 0 (by omega) [_, 0, _, _] x6x (HE.row rfl (by rfl) (HE.box rfl (by rfl) (HE.kill rfl (HE.kill rfl HE.nil)))) rfl fun i γ1 hi => ?_
 refine dc 4 (fun K K' => aS ?_ ?_)<;>intro u<;>try simp at u
 ·obtain rfl : i = 2 := by omega
  refine dv 4 ?_
  refine d1x (f := fun (j : Nat) => [pI k, pI f, pI ((j + 1 : Nat) : Int), pI i0, pI v, pI r, pI g, .pv (.slice none 0 0), .pv (.slice none 0 0), .pv (.slice none 0 0), .pv (.slice none 0 0)]) (f' := fun (j : Nat) => v8v true ⟨k, f, ((j + 1 : Nat) : Int), i0, v, r, g, [], [], [], []⟩) (l := List.range 2) 0 rfl (fun _ => .same (.same (.same (.same (.same (.same (.same (.le rfl .nil rfl (.le rfl .nil rfl (.le rfl .nil rfl (.le rfl .nil rfl .nil))))))))))) ?_
  refine dv 1 ?_
  exact ⟨[_], rfl, rfl, x4x⟩
 refine dv 10 fun K K' => ?_
 refine y2y (id := 2) r6r rfl p0p rfl rfl rfl rfl rfl rfl ?_
 refine y7y (zs := ((List.range i).map fun (j : Nat) => [pI k, pI f, pI ((j + 1 : Nat) : Int), pI i0, pI v, pI r, pI g, .pv (.slice none 0 0), .pv (.slice none 0 0), .pv (.slice none 0 0), .pv (.slice none 0 0)]) ++ [[pI k, pI f, pI ((i + 1 : Nat) : Int), pI i0, pI v, pI r, pI g, .pv (.slice none 0 0), .pv (.slice none 0 0), .pv (.slice none 0 0), .pv (.slice none 0 0)]]) rfl rfl r6r rfl p0p rfl rfl rfl rfl (by rfl) rfl (by (simp only [s3s, r0r, r5r, r8r, a0p, a2m, T79]; omega)) ?_
 refine dv 3 ?_
 refine x7x (b := 1) rfl rfl (by omega) (dv 1 ?_)
 exact ⟨i + 1, ⟨by omega, by omega⟩, [_, 0, _, _], x6x, x6x, (HE.row rfl (by rw [List.range_succ, List.map_append]; rfl) (HE.box rfl (by rw [if_neg (by omega : ¬ i + 1 = 0)] <;> rfl) (HE.kill rfl (HE.kill rfl HE.nil)))), x4x, rfl⟩
theorem d0m (l : List Wo) (f : Int) : a0t Tryz.prog 329 [w7w true l, .pv (.int .i64 f)] (.tup [.agg (v8v true (f3u f l)), .pv (.bool (b7q f l).isSome)]) := by
 refine pX Tryz.f329 [.agg (v8v true (f3u f l)), .pv (.bool (b7q f l).isSome)] 1 ?_
 refine u9u 0 rfl fun hlen => ?_
 refine dv 1 ?_
 refine x2x (id := 0) p0p b0r rfl (dv 5 fun K K' => ?_)
 refine x5x (ι := Nat) (fun i γ1 => [(6, pI (i : Int))]) (fun i γ1 => []) (fun i => i ≤ l.length ∧ d0v l (fun _ w => ¬ w.from' = f) i) (fun i => l.length - i) (q3q [0, 1, 4] rfl) (w4w 0 rfl HE.nil) 0 ⟨by omega, a1u⟩ [] x6x x4x rfl fun i γ1 hi => ?_
 obtain ⟨h1, h2⟩ := hi
 refine dc 6 (fun K K' => aS ?_ ?_)<;>intro u<;>try simp at u
 ·have hno := e8i (a3t h2 (by omega))
  refine dv 2 ?_
  refine rlB p0p b0r ?_
  refine dv 3 ?_
  (rw [f3u, hno]; exact ⟨_, _, rfl, c9y (.cl rfl .nil)⟩)
 obtain ⟨w, hw⟩ := gE l i
 refine dc 11 (fun K K' => aS ?_ ?_)<;>intro hc5<;>try simp at hc5
 ·have hne : ¬ w.from' = f := hc5
  refine dv 3 ?_
  refine x7x (b := 1) rfl rfl (by omega) (dv 1 ?_)
  exact ⟨i + 1, ⟨⟨by omega, a0i h2 hw hne⟩, by omega⟩, [], x6x, x6x, x4x, x4x, rfl⟩
 have hat := d7s h2 hw hc5
 refine dv 4 ?_
 refine u8u (out := .agg (v8v true w)) rfl p0p rfl ?_
 refine dv 3 ?_
 (rw [f3u, hat]; exact ⟨_, _, rfl, .agg rfl (.cl rfl (.cl rfl (.cl rfl (.cl rfl (.cl rfl (.cl rfl (.cl rfl (.cl rfl (.cl rfl (.cl rfl (.cl rfl (.nil)))))))))))) (.cl rfl .nil)⟩)
theorem c5i (c : Bool) (h : Hb) : a0t Tryz.prog 332 [.agg (a8n c h)] (.tup [.pv (.int .i64 (r2r h).1), .pv (.bool (r2r h).2)]) := by
 refine pX Tryz.f332 [.pv (.int .i64 (r2r h).1), .pv (.bool ((r2r h).2))] 1 ?_
 refine dv 1 ?_
 refine x8x (id := 0) rfl rfl rfl (dv 5 fun K K' => ?_)
 refine x0x rfl rfl rfl (b0n ..) (dc 2 (aS ?_ ?_))<;>intro hg2<;>try simp at hg2
 ·have hX : ¬ a8e h := fun q => a1f (by simpa using hg2) q.1
  refine dv 11 ?_
  try have hX : ¬ a8e h := fun q => by have := q.2.1; have := q.2.2.1; omega
  refine dv 4 ?_
  (rw [b7r hX]; exact ⟨_, _, rfl, .cl rfl (.cl rfl .nil)⟩)
 have hK : a0v h := a1c.1 (by simpa using hg2)
 refine dc 6 (aS ?_ ?_)<;>intro u<;>try simp at u
 ·refine dv 5 ?_
  try have hX : ¬ a8e h := fun q => by have := q.2.1; have := q.2.2.1; omega
  refine dv 4 ?_
  (rw [b7r hX]; exact ⟨_, _, rfl, .cl rfl (.cl rfl .nil)⟩)
 refine dc 5 (aI ?_ ?_)<;>intro u<;>try simp at u
 ·try have hX : ¬ a8e h := fun q => by have := q.2.1; have := q.2.2.1; omega
  refine dv 4 ?_
  (rw [b7r hX]; exact ⟨_, _, rfl, .cl rfl (.cl rfl .nil)⟩)
 have e1 : h.ones.length = 3 := by omega
 have e2 : h.twos.length = 3 := by omega
 refine dv 7 fun K K' => ?_
 refine x5x (ι := Nat) (fun i γ1 => [(4, pI (a1q 41 (h.ones.take i))), (5, pI (i : Int))]) (fun i γ1 => []) (fun i => i ≤ 3 ∧ ∀ j, j < i → e4r h j) (fun i => 3 - i) (y0y 1 rfl Cov.nil) (w4w 0 rfl HE.nil) 0 ⟨by omega, fun j hj => by omega⟩ [] (Cov.cons' (t := 4) rfl (rfl) (y0y 5 rfl Cov.nil)) x4x rfl fun i γ1 hi => ?_
 obtain ⟨h1, h1b⟩ := hi
 refine dc 4 (fun K K' => aS ?_ ?_)<;>intro u<;>try simp at u
 ·obtain rfl : i = 3 := by omega
  have hT : a8e h := ⟨hK, e1, e2, fun j hj => h1b j hj⟩
  have e3 : a1q 41 (h.ones.take 3) = a1q 41 h.ones := by rw [List.take_of_length_le (by omega)]
  refine dv 6 ?_
  (rw [f2v hT, ← e3]; exact ⟨_, _, rfl, .cl rfl (.cl rfl .nil)⟩)
 obtain ⟨a, ha⟩ := gE h.ones i
 obtain ⟨b, hb⟩ := gE h.twos i
 refine dc 18 (fun K K' K K' => aI ?_ ?_)<;>intro hc10<;>try simp at hc10
 ·have hX : ¬ a8e h := fun q => by have := (q.2.2.2 i (by omega) a b ha hb).1; omega
  refine dv 4 ?_
  (rw [b7r hX]; exact ⟨_, _, rfl, .cl rfl (.cl rfl .nil)⟩)
 have hI : a.inc = b.inc := hc10
 refine dv 1 ?_
 refine w8w (ι := Unit) (fun _i γ2 => [(4, pI (a1q 41 (h.ones.take (i + 1))))]) (fun _i γ2 => []) (fun _i => True) (q3q [1, 5] rfl) (w4w 0 rfl HE.nil) ?_ fun _i γ2 hi => ?_
 ·refine dc 9 (aS ?_ ?_)<;>intro u<;>try simp at u
  ·have hlt : ¬ a.g < a1q 41 (h.ones.take i) := by omega
   refine dv 1 ?_
   exact ⟨(), trivial, [], (Cov.cons' (t := 4) rfl (congrArg (fun v : Int => AV.pv (.int .i64 v)) (d7u ha hlt)) Cov.nil), x6x, x4x, x4x, rfl⟩
  have hlt : a.g < a1q 41 (h.ones.take i) := by omega
  refine dv 8 ?_
  exact ⟨(), trivial, [], (Cov.cons' (t := 4) rfl (congrArg (fun v : Int => AV.pv (.int .i64 v)) (d7t ha hlt)) Cov.nil), x6x, x4x, x4x, rfl⟩
 ·try dsimp only [a9u, a9v]
  refine dv 3 ?_
  refine x5x (ι := Nat) (fun k γ3 => [(6, pI (k : Int))]) (fun k γ3 => []) (fun k => k ≤ 3 ∧ ∀ (q : Nat) x, q < k → q ≠ i → h.ones[q]? = some x → x.incs.getD i 0 = b.inc ∧ x.versions.getD i 0 = b.version) (fun k => 3 - k) (q3q [1, 4, 5] rfl) (w4w 0 rfl HE.nil) 0 ⟨by omega, fun q x hq => by omega⟩ [] x6x x4x rfl fun k γ3 hi => ?_
  obtain ⟨h2, h2b⟩ := hi
  refine dc 4 (fun K K' => aS ?_ ?_)<;>intro u<;>try simp at u
  ·have hJ : e4r h i := fun a2 b2 ha2 hb2 => by rw [ha] at ha2; rw [hb] at hb2; cases ha2; cases hb2; exact ⟨hI, fun q x hne hx => h2b q x (by have := (List.getElem?_eq_some_iff.1 hx).1; omega) hne hx⟩
   refine dv 3 ?_
   refine x7x (b := 1) rfl rfl (by omega) (dv 1 ?_)
   exact ⟨i + 1, ⟨⟨by omega, fun j hj => by rcases Nat.lt_succ_iff_lt_or_eq.1 hj with q | q; exact h1b j q; subst q; exact hJ⟩, by omega⟩, [], x6x, x6x, x4x, x4x, rfl⟩
  obtain ⟨x0, hx0⟩ := gE h.ones k
  have hfu := hK.2.2.2.2 x0 (List.mem_of_getElem? hx0)
  obtain ⟨fu1, fu2⟩ := hfu
  obtain ⟨z, hz⟩ := gE x0.incs i
  obtain ⟨y, hy⟩ := gE x0.versions i
  refine dc 8 (fun K K' => aS ?_ ?_)<;>intro u<;>try simp at u
  ·refine dv 35 ?_
   have hS : k ≠ i → x0.incs.getD i 0 = b.inc ∧ x0.versions.getD i 0 = b.version := fun hne => by rw [b4z hz, b4z hy]; omega
   refine dv 3 ?_
   refine x7x (b := 1) rfl rfl (by omega) (dv 1 ?_)
   exact ⟨k + 1, ⟨⟨by omega, fun q x hq hne hx => by rcases Nat.lt_succ_iff_lt_or_eq.1 hq with q1 | q1; exact h2b q x q1 hne hx; subst q1; rw [hx0] at hx; cases hx; exact hS hne⟩, by omega⟩, [], x6x, x6x, x4x, x4x, rfl⟩
  refine dc 17 (aS ?_ ?_)<;>intro u<;>try simp at u
  ·refine dv 18 ?_
   have hX : ¬ a8e h := fun q => by have := (q.2.2.2 i (by omega) a b ha hb).2 k x0 (by omega) hx0; rw [b4z hz, b4z hy] at this; omega
   refine dv 4 ?_
   (rw [b7r hX]; exact ⟨_, _, rfl, .cl rfl (.cl rfl .nil)⟩)
  refine dc 18 (aI ?_ ?_)<;>intro u<;>try simp at u
  ·have hX : ¬ a8e h := fun q => by have := (q.2.2.2 i (by omega) a b ha hb).2 k x0 (by omega) hx0; rw [b4z hz, b4z hy] at this; omega
   refine dv 4 ?_
   (rw [b7r hX]; exact ⟨_, _, rfl, .cl rfl (.cl rfl .nil)⟩)
  have hS : k ≠ i → x0.incs.getD i 0 = b.inc ∧ x0.versions.getD i 0 = b.version := fun hne => by rw [b4z hz, b4z hy]; omega
  refine dv 3 ?_
  refine x7x (b := 1) rfl rfl (by omega) (dv 1 ?_)
  exact ⟨k + 1, ⟨⟨by omega, fun q x hq hne hx => by rcases Nat.lt_succ_iff_lt_or_eq.1 hq with q1 | q1; exact h2b q x q1 hne hx; subst q1; rw [hx0] at hx; cases hx; exact hS hne⟩, by omega⟩, [], x6x, x6x, x4x, x4x, rfl⟩
end
section
theorem c6q (c : Bool) (n : Nd) (fS : a0q n) (i : Nat) (l : La) (hl : n.lanes[i]? = some l) : a0t Tryz.prog 141 [.agg (u2u c n), .pv (.int .i64 (i : Int))] (.tup [.agg (y8y (b3w l (a0y n l.proc)).1), .pv (.bool (b3w l (a0y n l.proc)).2)]) := by
 refine pX Tryz.f141 [.agg (y8y (b3w l (a0y n l.proc)).1), .pv (.bool (b3w l (a0y n l.proc)).2)] 2 ?_
 have fB := v9v fS
 refine dv 1 ?_
 refine x8x (id := 0) rfl rfl rfl (x2x (id := 1) z2z a6n rfl (dv 14 ?_))
 refine x0x rfl rfl rfl (a4v c n l.proc (a8y fS) (by omega) fS.2.2.2.2.2.1) ?_
 refine x0x rfl rfl rfl (b5f c true l (a0y n l.proc)) ?_
 refine dv 5 ?_
 exact ⟨_, _, rfl, .agg rfl (.cl rfl (.cl rfl (.cl rfl (.cl rfl (.cl rfl (.cl rfl (.cl rfl .nil))))))) (.cl rfl .nil)⟩
theorem a7m (c : Bool) (n : Nd) : a0t Tryz.prog 44 [.agg (u2u c n)] (.pv (.int .i64 (b4p n))) := by
 refine pX Tryz.f44 [.pv (.int .i64 (b4p n))] 2 ?_
 refine dv 1 ?_
 refine x8x (id := 0) rfl rfl rfl (dv 6 fun K K' => ?_)
 refine x0x rfl rfl rfl (p2p ..) (dc 1 (aI ?_ ?_))<;>intro hc2<;>try simp at hc2
 ·have fX : ¬ y4y n := a1f (by simpa using hc2)
  refine dv 3 ?_
  refine x3x rfl ?_ rfl
  exact congrArg (fun v : Int => [AV.pv (.int .i64 v)]) (e3h fX).symm
 have fK : y4y n := a1c.1 (by simpa using hc2)
 have fS := fK.1
 have fB := v9v fS
 refine dv 5 fun K K' => ?_
 refine x5x (ι := Nat) (fun i γ1 => [(3, pI (a9y n i)), (4, pI (i : Int))]) (fun i γ1 => [(1, ((γ1 1), .dead))]) (fun i => i ≤ n.lanes.length) (fun i => n.lanes.length - i) (y0y 1 rfl Cov.nil) (w4w 0 rfl HE.nil) 0 (by omega) [0, _] x6x x4x rfl fun i γ1 hi => ?_
 refine dc 7 (fun K K' => aS ?_ ?_)<;>intro j<;>try simp at j
 ·obtain rfl : i = n.lanes.length := by omega
  refine dv 5 ?_
  refine x3x rfl ?_ rfl
  exact congrArg (fun v : Int => [AV.pv (.int .i64 v)]) (c4h fK).symm
 obtain ⟨l, hl⟩ := gE n.lanes i
 have hnc := b4q fK hl
 refine dv 6 fun K K' => ?_
 refine x0x rfl rfl rfl (c6q c n fS i l hl) (dv 3 ?_)
 refine x2x (id := 1) z2z a6n rfl (dv 2 ?_)
 rw [c4f ⟨hnc.2.1, hnc.2.2.1⟩]
 refine dc 3 (aS ?_ ?_)<;>intro hg7<;>try simp at hg7
 ·have hno : ¬ ((a3g l (a0y n l.proc)).2 = true ∧ (a3g l (a0y n l.proc)).1.time < a9y n i) := fun h => by have := h.1; simp_all
  refine dv 8 ?_
  refine x7x (b := 1) rfl rfl (by omega) (dv 1 ?_)
  exact ⟨i + 1, ⟨by omega, by omega⟩, [0, _], (Cov.cons' (t := 3) rfl (congrArg (fun v : Int => AV.pv (.int .i64 v)) (c4g hl hno).symm) (y0y 4 rfl Cov.nil)), x6x, x4x, x4x, rfl⟩
 have h2 : (a3g l (a0y n l.proc)).2 = true := hg7
 refine dc 5 (aS ?_ ?_)<;>intro j<;>try simp at j
 ·have hno : ¬ ((a3g l (a0y n l.proc)).2 = true ∧ (a3g l (a0y n l.proc)).1.time < a9y n i) := by (intro h; omega)
  refine dv 3 ?_
  refine x7x (b := 1) rfl rfl (by omega) (dv 1 ?_)
  exact ⟨i + 1, ⟨by omega, by omega⟩, [0, _], (Cov.cons' (t := 3) rfl (congrArg (fun v : Int => AV.pv (.int .i64 v)) (c4g hl hno).symm) (y0y 4 rfl Cov.nil)), x6x, x4x, x4x, rfl⟩
 have h3 : (a3g l (a0y n l.proc)).1.time < a9y n i := by omega
 refine dv 6 ?_
 refine x7x (b := 1) rfl rfl (by omega) (dv 1 ?_)
 exact ⟨i + 1, ⟨by omega, by omega⟩, [0, _], (Cov.cons' (t := 3) rfl (congrArg (fun v : Int => AV.pv (.int .i64 v)) (d4r hl ⟨h2, h3⟩).symm) (y0y 4 rfl Cov.nil)), x6x, x4x, x4x, rfl⟩
end
section
theorem a6x (c : Bool) (n : Nd) (r : Int) : a0t Tryz.prog 61 [.agg (u2u c n), .pv (.int .i64 r)] (.tup [.agg (u2u true (v0v n r).1), .agg (v8v true (v0v n r).2.1), .pv (.bool (v0v n r).2.2)]) := by
 refine pX Tryz.f61 [.agg (u2u true (v0v n r).1), .agg (v8v true (v0v n r).2.1), .pv (.bool (v0v n r).2.2)] 14 ?_
 refine dv 1 ?_
 refine x8x (id := 0) rfl rfl rfl (x2x (id := 1) u6u p9p rfl (x2x (id := 2) p0p b0r rfl (dv 4 fun K K' => ?_)))
 refine x0x rfl rfl rfl (p2p ..) (dc 1 (aI ?_ ?_))<;>intro hc2<;>try simp at hc2
 ·have fX : ¬ y4y n := a1f (by simpa using hc2)
  refine dv 1 ?_
  refine rlB u6u p9p ?_
  refine rlB p0p b0r ?_
  refine dv 4 ?_
  (rw [e7k fX]; exact ⟨_, _, rfl, b7n (c9y (.cl rfl .nil))⟩)
 have fK : y4y n := a1c.1 (by simpa using hc2)
 have fS := fK.1
 have fB := v9v fS
 have fV := fS.2.2.2.2.2.1
 have fb := c0q fS
 refine dv 3 ?_
 refine rlM [9, 10, 11] [_, _, _] (y6y c n fb) rfl rfl rfl ?_
 refine x2x (id := 3) u6u p9p rfl (dc 7 (fun K K' => aS ?_ ?_))<;>intro hg4<;>try simp at hg4
 ·have fU : ¬ (n.up = true ∧ n.round + 1 ≤ r ∧ r ≤ 9999) := fun h => by have := h.1; simp_all
  refine dv 10 ?_
  refine rlB p0p b0r ?_
  refine dv 4 ?_
  (rw [d6z fK fU]; exact ⟨_, _, rfl, r4r rfl rfl rfl (c9y (.cl rfl .nil))⟩)
 have fUp : n.up = true := hg4
 refine dv 3 ?_
 refine r1r (.int .i64 (n.round + 1)) rfl rfl rfl (a6o rfl rfl (by have := fS.1.2.2.2.2.2.1; omega) (by have := fS.1.2.2.2.2.2.1; omega)) ?_
 refine dv 0 ?_
 refine x0x rfl rfl rfl (u7u ..) (dv 0 ?_)
 refine x0x rfl rfl rfl (z3z ..) (dc 2 (aI ?_ ?_))<;>intro j<;>try simp at j
 ·have fU : ¬ (n.up = true ∧ n.round + 1 ≤ r ∧ r ≤ 9999) := by (intro h; omega)
  refine dv 2 ?_
  refine rlB p0p b0r ?_
  refine dv 4 ?_
  (rw [d6z fK fU]; exact ⟨_, _, rfl, r4r rfl rfl rfl (c9y (.cl rfl .nil))⟩)
 have fU : n.up = true ∧ n.round + 1 ≤ r ∧ r ≤ 9999 := ⟨fUp, by omega⟩
 refine dv 15 ?_
 refine x0x rfl rfl rfl (a7m ..) (rlB p0p b0r ?_)
 refine x2x (id := 4) p0p b0r rfl (dv 5 fun K K' => ?_)
 refine a0f 4 7 12 3 1 rfl rfl rfl rfl rfl (a0f 4 8 13 3 1 rfl rfl rfl rfl rfl ?_)
 refine x5x (ι := Nat) (fun i γ1 => [(9, pI (i : Int))]) (fun i γ1 => [(12, ((γ1 12), .row 3 1 (((n.views.take i).map Vi.inc).map a3i))), (13, ((γ1 13), .row 3 1 (((n.views.take i).map Vi.version).map a3i))), (4, ((0 + 1), .box 79 [pI 3, pI n.id, pI 0, pI n.inc, pI 0, pI r, pI (b4p n), .ref 12 (γ1 12), .ref 13 (γ1 13), .pv (.slice none 0 0), .pv (.slice none 0 0)])), (5, ((γ1 5), .dead)), (6, ((γ1 6), .dead)), (7, ((γ1 7), .dead)), (8, ((γ1 8), .dead))]) (fun i => i ≤ 3) (fun i => 3 - i) (q3q [2, 4, 5, 7, 8] rfl) (a0j [0, 1, 2, 3, 9, 10, 11] rfl) 0 (by omega) [0, 0, 0, 0, 0, _, _, _, _, 0, 0, 0, _, _] x6x (HE.row rfl (by rw [List.take_zero]; rfl) (HE.row rfl (by rw [List.take_zero]; rfl) (HE.box rfl rfl (HE.kill rfl (HE.kill rfl (HE.kill rfl (HE.kill rfl HE.nil))))))) rfl fun i γ1 hi => ?_
 refine dc 4 (fun K K' => aS ?_ ?_)<;>intro j<;>try simp at j
 ·obtain rfl : i = n.views.length := by omega
  rw [List.take_length]
  refine dv 8 ?_
  (rw [e7l fK fU, show e3i n r = { e3i n r with g := b4p n } from by rw [c4h fK]; rfl]; exact ⟨_, _, rfl, r4r (n := { n with round := r, low := 41 }) rfl rfl rfl (.agg rfl (.cl rfl (.cl rfl (.cl rfl (.cl rfl (.cl rfl (.cl rfl (.cl rfl (.ref rfl (Le.ow_map _ (fun _ => rfl) (fun _ => rfl)) (.ref rfl (Le.ow_map _ (fun _ => rfl) (fun _ => rfl)) (.le rfl .nil (.le rfl .nil .nil))))))))))) (.cl rfl .nil))⟩)
 obtain ⟨v, hv⟩ := gE n.views i
 refine dv 12 fun K K' => ?_
 refine b1m (id := 5) a0l rfl s4s rfl rfl rfl rfl rfl ?_
 refine y7y (zs := ((n.views.take i).map Vi.inc ++ [v.inc]).map a3i) rfl rfl a0l rfl s4s rfl rfl rfl rfl (by rfl) (z7z _ _ _) (by (simp only [s3s, r0r, r5r, r8r, a0p, T3]; omega)) ?_
 refine dv 11 ?_
 refine b1m (id := 7) a0l rfl s4s rfl rfl rfl rfl rfl ?_
 refine y7y (zs := ((n.views.take i).map Vi.version ++ [v.version]).map a3i) rfl rfl a0l rfl s4s rfl rfl rfl rfl (by rfl) (z7z _ _ _) (by (simp only [s3s, r0r, r5r, r8r, a0p, T3]; omega)) ?_
 refine dv 4 ?_
 refine u1u rfl rfl rfl (dv 1 ?_)
 exact ⟨i + 1, ⟨by omega, by omega⟩, [0, 0, 0, 0, 0, _, _, _, _, 0, 0, 0, _, _], (Cov.cons' (t := 9) rfl (by rw [x9x (by omega) (by omega)]; rfl) Cov.nil), x6x, (HE.row rfl (by simp only [z8z hv, List.map_append, List.map_cons, List.map_nil]) (HE.row rfl (by simp only [z8z hv, List.map_append, List.map_cons, List.map_nil]) (HE.box rfl rfl (HE.kill rfl (HE.kill rfl (HE.kill rfl (HE.kill rfl HE.nil))))))), x4x, rfl⟩
end
section
theorem c1d (c : Bool) (l : La) (u : Int) (hok : a6c l = true) : a0t Tryz.prog 25 [.agg (q1q c l), .pv (.int .i64 u)] (.tup [.agg (q1q true (a4m u l)), s1s true (b4r u l), q7q true (c0r u l)]) := by
 refine pX Tryz.f25 [.agg (q1q true (a4m u l)), s1s true (b4r u l), q7q true (c0r u l)] 8 ?_
 obtain ⟨h1, h2⟩ := a1i hok
 have hlb := f1u hok
 refine dv 1 ?_
 refine x8x (id := 0) rfl rfl rfl (x2x (id := 1) a0k a6r rfl (dv 3 ?_))
 refine y1y (id := 2) u4u rfl z2z rfl (dv 2 ?_)
 refine y1y (id := 3) p5p rfl z9z rfl (dv 4 fun K K' => ?_)
 refine x0x rfl rfl rfl (a4g ..) (dv 1 ?_)
 refine a1e rfl (fun hc2 => ?_) (fun hc2 => ?_)
 ·simp [hok] at hc2
 try simp at hc2
 refine dv 6 ?_
 refine x2x (id := 4) a2x c6f rfl (dv 3 fun K K' => ?_)
 refine x5x (ι := Nat) (fun i γ1 => [(7, .ref 2 (γ1 2)), (8, .ref 3 (γ1 3)), (9, pI (i : Int))]) (fun i γ1 => [(2, ((γ1 2), .row 56 7 (((l.done.take i).flatMap Pa.sends).map y8y))), (3, ((γ1 3), .row 141 5 (((l.done.take i).flatMap Pa.outs).map w3w))), (4, ((0 + 1), .box 41 [pI (a3u l i).x, pI (a3u l i).y, pI (a3u l i).count])), (5, ((γ1 5), .dead)), (6, ((γ1 6), .dead))]) (fun i => i ≤ l.done.length ∧ (∀ (j : Nat) p, j < i → l.done[j]? = some p → p.ev.time < u)) (fun i => l.done.length - i) (q3q [1, 2, 4, 10] rfl) (a0j [0, 1, 7] rfl) 0 ⟨by omega, fun j p hj => by omega⟩ [0, 0, _, _, 0, _, _] x6x (HE.row rfl (by rfl) (HE.row rfl (by rfl) (HE.box rfl rfl (HE.kill rfl (HE.kill rfl HE.nil))))) rfl fun i γ1 hi => ?_
 obtain ⟨k1, k2⟩ := hi
 refine dc 8 (fun K K' => aS ?_ ?_)<;>intro h<;>try simp at h
 ·have hcut : b8y u l.done = i := c4i k1 k2 (fun q hq => by rw [List.getElem?_eq_none (by omega)] at hq; cases hq)
  refine dv 9 ?_
  refine a1e rfl (fun hc7 => ?_) (fun hc7 => ?_)
  ·simp [hok] at hc7
  try simp at hc7
  have hfs := a6d (f := Pa.sends) (m := 2) k1 fun p hp => (h2 p hp).1
  have hfo := a6d (f := Pa.outs) (m := 2) k1 fun p hp => (h2 p hp).2
  refine dv 7 ?_
  refine x0x rfl rfl rfl (a3o c l i l.done.length hlb.1 (by omega) hlb.1 hlb.2) ?_
  refine x2x (id := 7) a0k a6r rfl (dv 4 ?_)
  refine a0u rfl rfl a2x rfl rfl rfl rfl (a0g rfl) rfl ?_
  refine w5w 7 rfl rfl (fun _ => rfl) ?_
  refine w5w 8 rfl rfl (fun _ => rfl) ?_
  refine dv 3 ?_
  refine x0x rfl rfl rfl (a1s true _ (by omega)) ?_
  refine dv 1 ?_
  refine x0x rfl rfl rfl (a4u true _ (by omega)) ?_
  refine dv 4 ?_
  subst hcut
  rw [show a4m u l = ⟨l.proc, a3u l (b8y u l.done), (l.done.take l.done.length).drop (b8y u l.done)⟩ from by rw [List.take_length]; rfl]
  exact ⟨_, _, rfl, .agg rfl (.cl rfl (.cl rfl (.cl rfl (.cl rfl (.cl rfl .nil))))) (.cl rfl (.cl rfl .nil))⟩
 obtain ⟨p, hp⟩ := gE l.done i
 have hpb := h2 p (List.mem_of_getElem? hp)
 refine dc 10 (aS ?_ ?_)<;>intro hc6<;>try simp at hc6
 ·have hcut : b8y u l.done = i := by exact c4i k1 k2 (fun q hq => by rw [hp] at hq; cases hq; omega)
  have hfs := a6d (f := Pa.sends) (m := 2) k1 fun p hp => (h2 p hp).1
  have hfo := a6d (f := Pa.outs) (m := 2) k1 fun p hp => (h2 p hp).2
  refine dv 7 ?_
  refine x0x rfl rfl rfl (a3o c l i l.done.length hlb.1 (by omega) hlb.1 hlb.2) ?_
  refine x2x (id := 7) a0k a6r rfl (dv 4 ?_)
  refine a0u rfl rfl a2x rfl rfl rfl rfl (a0g rfl) rfl ?_
  refine w5w 7 rfl rfl (fun _ => rfl) ?_
  refine w5w 8 rfl rfl (fun _ => rfl) ?_
  refine dv 3 ?_
  refine x0x rfl rfl rfl (a1s true _ (by omega)) ?_
  refine dv 1 ?_
  refine x0x rfl rfl rfl (a4u true _ (by omega)) ?_
  refine dv 4 ?_
  subst hcut
  rw [show a4m u l = ⟨l.proc, a3u l (b8y u l.done), (l.done.take l.done.length).drop (b8y u l.done)⟩ from by rw [List.take_length]; rfl]
  exact ⟨_, _, rfl, .agg rfl (.cl rfl (.cl rfl (.cl rfl (.cl rfl (.cl rfl .nil))))) (.cl rfl (.cl rfl .nil))⟩
 have hlt : p.ev.time < u := hc6
 have hfs := a6d (f := Pa.sends) (m := 2) (show i ≤ l.done.length by omega) fun p hp => (h2 p hp).1
 have hfo := a6d (f := Pa.outs) (m := 2) (show i ≤ l.done.length by omega) fun p hp => (h2 p hp).2
 refine dv 8 ?_
 refine u8u (out := .agg (q8q p.after)) rfl a2x rfl ?_
 refine dv 9 ?_
 refine w2w (zs := ((l.done.take i).flatMap Pa.sends ++ p.sends).map y8y) rfl rfl u4u rfl z2z rfl rfl rfl (z6z (fun _ => rfl) _) (a5c _ _ _) (by (simp only [s3s, r0r, r5r, r8r, a0p, b3h, T56]; omega)) ?_
 refine dv 9 ?_
 refine w2w (zs := ((l.done.take i).flatMap Pa.outs ++ p.outs).map w3w) rfl rfl p5p rfl z9z rfl rfl rfl (z6z (fun _ => rfl) _) (a5c _ _ _) (by (simp only [s3s, r0r, r5r, r8r, a0p, b3h, T141]; omega)) ?_
 refine dv 3 ?_
 refine x7x (b := 1) rfl rfl (by omega) (dv 1 ?_)
 exact ⟨i + 1, ⟨⟨by omega, fun j q hj hq => by by_cases e : j = i; (subst e; rw [hp] at hq; cases hq; exact hlt); exact k2 j q (by omega) hq⟩, by omega⟩, [0, 0, _, _, 0, _, _], x6x, x6x, (HE.row rfl (by rw [a2h hp]) (HE.row rfl (by rw [a2h hp]) (HE.box rfl (by rw [b2w hp]; rfl) (HE.kill rfl (HE.kill rfl HE.nil))))), x4x, rfl⟩
end
section
theorem a6y (c : Bool) (n : Nd) (r g : Int) : a0t Tryz.prog 67 [.agg (u2u c n), .pv (.int .i64 r), .pv (.int .i64 g)] (.tup [.agg (u2u true (z1z n r g).1), .pv (.bool (z1z n r g).2)]) := by
 refine pX Tryz.f67 [.agg (u2u true (z1z n r g).1), .pv (.bool (z1z n r g).2)] 19 ?_
 refine dv 1 ?_
 refine x8x (id := 0) rfl rfl rfl (x2x (id := 1) u6u p9p rfl (dv 4 fun K K' => ?_))
 refine x0x rfl rfl rfl (p2p c n) (dc 1 (aI ?_ ?_))<;>intro hc2<;>try simp at hc2
 ·have fX : ¬ y4y n := a1f (by simpa using hc2)
  refine dv 1 ?_
  refine rlB u6u p9p ?_
  refine dv 3 ?_
  (rw [c2k fX]; exact ⟨_, _, rfl, b7n (.cl rfl .nil)⟩)
 have fK : y4y n := a1c.1 (by simpa using hc2)
 have fS := fK.1
 have fB := v9v fS
 have fV := fS.2.2.2.2.2.1
 have fb := c0q fS
 have fM0 := c4h fK
 have fL := c4n fS
 have fG := fS.1.2.2.1
 refine dv 3 ?_
 refine rlM [13, 14, 15] [_, _, _] (y6y c n fb) rfl rfl rfl ?_
 refine x2x (id := 2) u6u p9p rfl (dc 7 (fun K K' => aS ?_ ?_))<;>intro hg4<;>try simp at hg4
 ·have fU : ¬ a4h n r g := by (rintro ⟨m1, m2, m3, m4, m5, m6, m7, m8⟩; (simp_all; done))
  refine dv 40 ?_
  (rw [a1v fK fU]; exact ⟨_, _, rfl, r4r (n := n) rfl rfl rfl (.cl rfl .nil)⟩)
 have fUp : n.up = true := hg4
 refine dc 4 (aS ?_ ?_)<;>intro h<;>try simp at h
 ·have fU : ¬ a4h n r g := by (rintro ⟨m1, m2, m3, m4, m5, m6, m7, m8⟩; omega)
  refine dv 36 ?_
  (rw [a1v fK fU]; exact ⟨_, _, rfl, r4r (n := n) rfl rfl rfl (.cl rfl .nil)⟩)
 refine dc 6 (aS ?_ ?_)<;>intro h<;>try simp at h
 ·have fU : ¬ a4h n r g := by (rintro ⟨m1, m2, m3, m4, m5, m6, m7, m8⟩; omega)
  refine dv 30 ?_
  (rw [a1v fK fU]; exact ⟨_, _, rfl, r4r (n := n) rfl rfl rfl (.cl rfl .nil)⟩)
 refine dv 3 ?_
 refine r1r (.int .i64 (n.g + 1)) rfl rfl rfl (a6o rfl rfl (by omega) (by omega)) ?_
 refine dv 0 ?_
 refine x0x rfl rfl rfl (z3z ..) (dc 3 (aS ?_ ?_))<;>intro h<;>try simp at h
 ·have fU : ¬ a4h n r g := by (rintro ⟨m1, m2, m3, m4, m5, m6, m7, m8⟩; omega)
  refine dv 22 ?_
  (rw [a1v fK fU]; exact ⟨_, _, rfl, r4r (n := n) rfl rfl rfl (.cl rfl .nil)⟩)
 refine dc 6 (aS ?_ ?_)<;>intro h<;>try simp at h
 ·have fU : ¬ a4h n r g := by (rintro ⟨m1, m2, m3, m4, m5, m6, m7, m8⟩; omega)
  refine dv 16 ?_
  (rw [a1v fK fU]; exact ⟨_, _, rfl, r4r (n := n) rfl rfl rfl (.cl rfl .nil)⟩)
 refine dv 1 ?_
 refine x0x rfl rfl rfl (a7m c n) (dc 4 (aS ?_ ?_))<;>intro h<;>try simp at h
 ·have fU : ¬ a4h n r g := by (rintro ⟨m1, m2, m3, m4, m5, m6, m7, m8⟩; omega)
  refine dv 10 ?_
  (rw [a1v fK fU]; exact ⟨_, _, rfl, r4r (n := n) rfl rfl rfl (.cl rfl .nil)⟩)
 refine dv 2 ?_
 refine x0x rfl rfl rfl (u7u ..) (dc 2 (aI ?_ ?_))<;>intro h<;>try simp at h
 ·have fU : ¬ a4h n r g := by (rintro ⟨m1, m2, m3, m4, m5, m6, m7, m8⟩; omega)
  refine dv 5 ?_
  (rw [a1v fK fU]; exact ⟨_, _, rfl, r4r (n := n) rfl rfl rfl (.cl rfl .nil)⟩)
 have fM : a4h n r g := ⟨fUp, by omega, by omega, by omega, by omega, by omega, by omega, by omega⟩
 obtain ⟨k, hk, hk3, hkn⟩ := e3k fS
 have hkl := fS.2.2.2.2.2.2.1
 obtain ⟨kn, hkv⟩ := gE n.known k
 have hKk : n.known.set n.id.toNat g = n.known.set k g := by rw [hkn]
 refine dv 13 fun K K' => ?_
 refine x5x (ι := Nat) (fun i γ1 => [(9, s1s c (a2j n g i)), (10, q7q c (b0k n g i)), (11, pI (i : Int))]) (fun i γ1 => [(13, ((0 + 1), .row 44 5 ((b3x g n.lanes i).map (q1q true)))), (3, ((γ1 3), .dead)), (4, ((γ1 4), .dead)), (5, ((γ1 5), .dead)), (6, ((γ1 6), .dead)), (7, ((γ1 7), .dead)), (8, ((γ1 8), .dead)), (9, ((γ1 9), .dead))]) (fun i => i ≤ n.lanes.length) (fun i => n.lanes.length - i) (q3q [2, 3, 6, 8] rfl) (a0j [0, 1, 2, 10, 11, 12, 14, 15, 16, 17, 18] rfl) 0 (by omega) [0, 0, 0, _, _, _, _, _, _, _] (Cov.cons' (t := 9) rfl (by rw [c4l]) (Cov.cons' (t := 10) rfl (by rw [c4m]) (y0y 11 rfl Cov.nil))) (HE.row rfl (by rw [c0s]) (HE.kill rfl (HE.kill rfl (HE.kill rfl (HE.kill rfl (HE.kill rfl (HE.kill rfl (HE.kill rfl HE.nil)))))))) rfl fun i γ1 hi => ?_
 refine dc 7 (fun K K' => aI ?_ ?_)<;>intro h<;>try simp at h
 ·obtain ⟨l, hp⟩ := gE n.lanes i
  have hkt := b8z fS g (i + 1)
  rw [b2x hp, List.length_append] at hkt
  have hot := b9a fS g (i + 1)
  rw [b2y hp, List.length_append] at hot
  have hlt2 : i < (b3x g n.lanes i).length := by rw [d2m _ _ (by omega)]; omega
  have hll := fL l (List.mem_of_getElem? hp)
  refine dv 10 fun K K' => ?_
  refine x0x rfl rfl rfl (c1d c l g hll) (dv 4 ?_)
  refine x2x (id := 3) a0k a6r rfl (dv 8 ?_)
  refine y3y (j := i) rfl rfl a8c rfl a0k rfl rfl hlt2 ?_
  refine u3u (el' := a4m g l) rfl rfl a0k rfl rfl rfl (c2j hp) rfl (s6s rfl) rfl rfl ?_
  refine dv 1 ?_
  refine y1y (id := 4) u4u rfl z2z rfl (dv 1 ?_)
  refine w2w (zs := (a2j n g i).map y8y) rfl rfl u4u rfl z2z rfl rfl rfl (z6z (fun _ => rfl) _) rfl (by (simp only [s3s, r0r, r5r, r8r, a0p, T56]; omega)) ?_
  refine dv 1 ?_
  refine a1w p1p (zs := (a2j n g i ++ b4r g l).map y8y) rfl rfl u4u rfl z2z rfl rfl rfl (z6z (fun _ => rfl) _) (a5c _ _ _) (by (simp only [s3s, r0r, r5r, r8r, a0p, T56]; omega)) (Le.ow_map _ (fun _ => rfl) (fun _ => rfl)) ?_
  refine dv 2 ?_
  refine y1y (id := 7) p5p rfl z9z rfl (dv 1 ?_)
  refine w2w (zs := (b0k n g i).map w3w) rfl rfl p5p rfl z9z rfl rfl rfl (z6z (fun _ => rfl) _) rfl (by (simp only [s3s, r0r, r5r, r8r, a0p, T141]; omega)) ?_
  refine dv 1 ?_
  refine a1w p1p (zs := (b0k n g i ++ c0r g l).map w3w) rfl rfl p5p rfl z9z rfl rfl rfl (z6z (fun _ => rfl) _) (a5c _ _ _) (by (simp only [s3s, r0r, r5r, r8r, a0p, T141]; omega)) (Le.ow_map _ (fun _ => rfl) (fun _ => rfl)) ?_
  refine dv 1 ?_
  refine e1i 9 rfl (.le rfl (Le.low_map (c := c) (l := a2j n g i ++ b4r g l) (f := y8y) fun _ => rfl) .nil) ?_
  refine e1i 10 rfl (.le rfl (Le.low_map (c := c) (l := b0k n g i ++ c0r g l) (f := w3w) fun _ => rfl) .nil) ?_
  refine dv 2 ?_
  refine u1u rfl rfl rfl (dv 1 ?_)
  exact ⟨i + 1, ⟨by omega, by omega⟩, [0, 0, 0, _, _, _, _, _, _, _], (Cov.cons' (t := 9) rfl (by rw [b2x hp]; rfl) (Cov.cons' (t := 10) rfl (by rw [b2y hp]; rfl) (Cov.cons' (t := 11) rfl (by rw [x9x (by omega) (by omega)]; rfl) Cov.nil))), x6x, (HE.row rfl (by rw [c4k hp]) (HE.kill rfl (HE.kill rfl (HE.kill rfl (HE.kill rfl (HE.kill rfl (HE.kill rfl (HE.kill rfl HE.nil)))))))), x4x, rfl⟩
 obtain rfl : i = n.lanes.length := by omega
 have hkt := b8z fS g n.lanes.length
 have hot := b9a fS g n.lanes.length
 have hkq : ∀ e ∈ z5z (a2j n g n.lanes.length), okE e = true := fun e he => d2n fS ((a7e _ _).1 he)
 have hqs := a9l (a2j n g n.lanes.length)
 refine dv 11 ?_
 refine y3y (j := k) rfl (by rw [← hk]; rfl) a0l rfl s4s rfl rfl (z0z hkv) ?_
 refine a8v (el' := g) rfl rfl s4s rfl rfl rfl hkv rfl (by omega) (.val rfl rfl .nil) rfl rfl ?_
 refine dv 1 ?_
 refine y1y (id := 10) u4u rfl z2z rfl (dv 4 ?_)
 refine x0x rfl rfl rfl (a1s c _ (by omega)) ?_
 refine dv 5 fun K K' => ?_
 refine x5x (ι := Nat) (fun j γ2 => [(15, pI (j : Int))]) (fun j γ2 => [(10, ((γ2 10), .row 56 7 ((((z5z (a2j n g n.lanes.length)).take j).filter (b2z (n.known.set k g))).map y8y))), (2, ((0 + 1), .box 65 [pI n.id, .pv (.bool n.up), pI n.inc, pI g, .ref 13 (0 + 1), .ref 10 (γ2 10), q7q true n.outs, pI n.led, pI n.version, .ref 14 (0 + 1), .ref 15 (0 + 1), pI n.round, pI n.low])), (11, ((γ2 11), .dead)), (12, ((γ2 12), .dead))]) (fun j => j ≤ (z5z (a2j n g n.lanes.length)).length) (fun j => (z5z (a2j n g n.lanes.length)).length - j) (q3q [3, 6, 8, 9, 10] rfl) (a0j [0, 1, 3, 4, 5, 6, 7, 8, 9, 13, 14, 15, 16, 17, 18] rfl) 0 (by omega) [0, 0, 0, 0, 0, 0, 0, 0, 0, 0, _, _, _] x6x (HE.row rfl (by rw [List.take_zero]; rfl) (HE.box rfl rfl (HE.kill rfl (HE.kill rfl HE.nil)))) rfl fun j γ2 hi => ?_
 refine dc 6 (fun K K' => aS ?_ ?_)<;>intro h<;>try simp at h
 ·obtain rfl : j = (z5z (a2j n g n.lanes.length)).length := by omega
  refine dv 3 ?_
  refine x0x rfl rfl rfl (a4u c _ (by omega)) ?_
  refine dv 3 fun K K' => ?_
  refine b1o 10 (xs' := (w0w n g).kept.map y8y) rfl (by simp only [w0w, hKk, c9r, List.take_length]) ?_
  refine b1o 13 (xs' := (w0w n g).lanes.map (q1q true)) rfl (by rw [c4j]; rfl) ?_
  refine b1o 15 (xs' := (w0w n g).known.map a3i) rfl (by simp only [w0w, hKk]) ?_
  refine v5v (b := b9w true (w0w n g).lanes) 2 4 rfl rfl rfl (.ref rfl (Le.ow_map _ (fun _ => rfl) (fun _ => rfl)) .nil) rfl rfl rfl rfl ?_
  refine v5v (b := s1s true (w0w n g).kept) 2 5 rfl rfl rfl (.ref rfl (Le.ow_map _ (fun _ => rfl) (fun _ => rfl)) .nil) rfl rfl rfl rfl ?_
  refine v5v (b := c1r true n.views) 2 9 rfl rfl rfl (.ref rfl (Le.ow_map _ (fun _ => rfl) (fun _ => rfl)) .nil) rfl rfl rfl rfl ?_
  refine v5v (b := a4n true (w0w n g).known) 2 10 rfl rfl rfl (.ref rfl (Le.ow_map _ (fun _ => rfl) (fun _ => rfl)) .nil) rfl rfl rfl rfl ?_
  refine dv 2 ?_
  refine x0x rfl rfl rfl (p2p true (w0w n g)) ?_
  refine dc 1 (aI ?_ ?_)<;>intro hc21<;>try simp at hc21
  ·have fX2 : ¬ y4y (w0w n g) := a1f (by simpa using hc21)
   refine dv 2 ?_
   refine rlM [16, 17, 18] [_, _, _] (y6y c n fb) rfl rfl rfl ?_
   refine dv 3 ?_
   (rw [b9c fK fM, b1s fX2]; exact ⟨_, _, rfl, r4r (n := n) rfl rfl rfl (.cl rfl .nil)⟩)
  have fK2 : y4y (w0w n g) := a1c.1 (by simpa using hc21)
  have fb2 := c0q fK2.1
  refine dv 3 ?_
  refine rlM [16, 17, 18] [_, _, _] (y6y true (w0w n g) fb2) rfl rfl rfl ?_
  refine dv 3 ?_
  (rw [b9c fK fM, b1r fK2]; exact ⟨_, _, rfl, r4r (n := w0w n g) rfl rfl rfl (.cl rfl .nil)⟩)
 obtain ⟨e, he⟩ := gE (z5z (a2j n g n.lanes.length)) j
 obtain ⟨k2, v, hk2, hv, hw⟩ := d7b (kn := n.known.set k g) (hkq e (List.mem_of_getElem? he)) (by rw [List.length_set]; exact hkl)
 have hfl : (((z5z (a2j n g n.lanes.length)).take j).filter (b2z (n.known.set k g))).length ≤ 1000000 := Nat.le_trans (List.length_filter_le _ _) (by rw [List.length_take]; omega)
 refine dv 16 fun K K' => ?_
 refine x0x rfl rfl rfl (a0s ..) ?_
 refine y3y (j := k2) rfl (by rw [← hk2]; rfl) a0l rfl s4s rfl rfl (z0z hv) ?_
 refine dc 2 (aS ?_ ?_)<;>intro h<;>try simp at h
 ·have hwf : ¬ b2z (n.known.set k g) e = true := by rw [hw]; simp; omega
  refine dv 3 ?_
  refine u1u rfl rfl rfl (dv 1 ?_)
  exact ⟨j + 1, ⟨by omega, by omega⟩, [0, 0, 0, 0, 0, 0, 0, 0, 0, 0, _, _, _], (Cov.cons' (t := 15) rfl (by rw [x9x (by omega) (by omega)]; rfl) Cov.nil), x6x, (HE.row rfl (by rw [p7p he]; rw [if_neg hwf, List.append_nil]) (HE.box rfl rfl (HE.kill rfl (HE.kill rfl HE.nil)))), x4x, rfl⟩
 have hwt : b2z (n.known.set k g) e = true := by rw [hw]; exact decide_eq_true (by omega)
 refine dv 7 ?_
 refine y2y (id := 11) u4u rfl z2z rfl rfl rfl rfl rfl rfl ?_
 refine y7y (zs := (((z5z (a2j n g n.lanes.length)).take j).filter (b2z (n.known.set k g)) ++ [e]).map y8y) rfl rfl u4u rfl z2z rfl rfl rfl rfl (by rfl) (z7z _ _ _) (by (simp only [s3s, r0r, r5r, r8r, a0p, T56]; omega)) ?_
 refine dv 4 ?_
 refine u1u rfl rfl rfl (dv 1 ?_)
 exact ⟨j + 1, ⟨by omega, by omega⟩, [0, 0, 0, 0, 0, 0, 0, 0, 0, 0, _, _, _], (Cov.cons' (t := 15) rfl (by rw [x9x (by omega) (by omega)]; rfl) Cov.nil), x6x, (HE.row rfl (by rw [p7p he]; rw [if_pos hwt]) (HE.box rfl rfl (HE.kill rfl (HE.kill rfl HE.nil)))), x4x, rfl⟩
end
section
def b4a (c : Bool) (vs : List Vi) : List (Value × AV) := vs.zipIdx.map fun p => (.int .i64 (p.2 : Int), .agg (a2l c p.1))
def c5j (n : Nat) : List Int := (List.range n).map fun (i : Nat) => (i : Int)
variable {c : Bool} {vs : List Vi} {i : Nat} {v : Vi}
theorem f3o (h : vs[i]? = some v) : (b4a c vs)[i]? = some (.int .i64 (i : Int), .agg (a2l c v)) := by
 rw [b4a, List.getElem?_map, List.getElem?_zipIdx, h]; simp
theorem c5k (c : Bool) (vs : List Vi) : (b4a c vs).map (·.1) = (c5j vs.length).map fun n => Value.int .i64 n := by
 apply List.ext_getElem?
 intro i
 simp only [b4a, c5j, List.getElem?_map, List.getElem?_zipIdx, List.getElem?_range]
 by_cases h : i < vs.length
 ·simp [h]
 ·rw [List.getElem?_eq_none (by omega : vs.length ≤ i)]; simp [h]
theorem e8s (h : i < n) : a8d (c5j n) (i : Int) = some i := by
 obtain ⟨j, hj⟩ := d1o (k := (i : Int)) (ks := c5j n) (List.mem_map.2 ⟨i, List.mem_range.2 h, rfl⟩)
 have := b7d hj
 simp only [c5j, List.getElem?_map] at this
 cases hr : (List.range n)[j]? with
 | none => rw [hr] at this; cases this
 | some k =>
  rw [hr] at this
  obtain ⟨q1, q2⟩ := List.getElem?_eq_some_iff.1 hr
  simp only [List.getElem_range] at q2
  simp only [Option.map_some, Option.some.injEq] at this
  have : j = i := by omega
  rw [hj, this]
theorem e8t (n : Nat) : a8d (c5j n) (n : Int) = none := b4g.2 fun h => by
 obtain ⟨k, h1, h2⟩ := List.mem_map.1 h
 rw [List.mem_range] at h1
 omega
theorem e5u (c : Bool) (vs : List Vi) (v : Vi) : b4a c (vs ++ [v]) = b4a c vs ++ [(.int .i64 (vs.length : Int), .agg (a2l c v))] := by
 simp [b4a, List.zipIdx_append]
theorem d3i {tt : TT} {et : TypeId} (h : vs[i]? = some v) : (∃ j kv, a8d (c5j vs.length) (i : Int) = some j ∧ (b4a c vs)[j]? = some (kv, .agg (a2l c v))) ∨ (a8d (c5j vs.length) (i : Int) = none ∧ ∃ S, tt et = some S ∧ AV.agg (a2l c v) = c0i S) :=
 .inl ⟨i, _, e8s (List.getElem?_eq_some_iff.1 h).1, f3o h⟩
theorem a0w (c : Bool) (vs : List Vi) : ∀ p ∈ b4a c vs, p.2.flatA = true := fun p hp => by
 obtain ⟨q, _, rfl⟩ := List.mem_map.1 hp; rfl
end
section
theorem e8u {α : Type} {l : List α} {i : Nat} {a : α} (h : l[i]? = some a) : l.set i a = l := by
 obtain ⟨h1, rfl⟩ := List.getElem?_eq_some_iff.1 h
 exact List.set_getElem_self h1
end
section
theorem b5i (c : Bool) (n : Nd) (f inc ver g : Int) (es : List Ev) : a0t Tryz.prog 70 [.agg (u2u c n), .pv (.int .i64 f), .pv (.int .i64 inc), .pv (.int .i64 ver), .pv (.int .i64 g), s1s c es] (.agg (u2u true (a3b n f inc ver g es))) := by
 refine pX Tryz.f70 [.agg (u2u true (a3b n f inc ver g es))] 12 ?_
 refine dv 1 ?_
 refine x8x (id := 0) rfl rfl rfl (x2x (id := 1) u6u p9p rfl (dv 3 fun K K' => ?_))
 refine x0x rfl rfl rfl (p2p c n) (dc 1 (aI ?_ ?_))<;>intro hc2<;>try simp at hc2
 ·have fX : ¬ y4y n := a1f (by simpa using hc2)
  refine dv 1 ?_
  refine rlB u6u p9p ?_
  refine dv 2 ?_
  (rw [f5e fX]; exact ⟨_, _, rfl, e4d⟩)
 have fK : y4y n := a1c.1 (by simpa using hc2)
 have fS := fK.1
 have fB := v9v fS
 have fV := fS.2.2.2.2.2.1
 have fQ := fS.2.2.2.2.2.2.1
 have fb := c0q fS
 refine dv 3 ?_
 refine rlM [6, 7, 8] [_, _, _] (y6y c n fb) rfl rfl rfl ?_
 refine x2x (id := 2) u6u p9p rfl (dc 7 (fun K K' => aS ?_ ?_))<;>intro hg4<;>try simp at hg4
 ·have fU : ¬ b1u n f inc ver g es := by (rintro ⟨m1, m2, m3, m4, m5, m6, m7, m8, m9⟩; (simp_all; done))
  refine dv 37 ?_
  (rw [b9f fK fU]; exact ⟨_, _, rfl, b7m (n := n) rfl rfl rfl⟩)
 have fUp : n.up = true := hg4
 refine dv 1 ?_
 refine x0x rfl rfl rfl (z3z ..) (dc 3 (aS ?_ ?_))<;>intro h<;>try simp at h
 ·have fU : ¬ b1u n f inc ver g es := by (rintro ⟨m1, m2, m3, m4, m5, m6, m7, m8, m9⟩; omega)
  refine dv 32 ?_
  (rw [b9f fK fU]; exact ⟨_, _, rfl, b7m (n := n) rfl rfl rfl⟩)
 refine dc 6 (aS ?_ ?_)<;>intro hg6<;>try simp at hg6
 ·have fU : ¬ b1u n f inc ver g es := by (rintro ⟨m1, m2, m3, m4, m5, m6, m7, m8, m9⟩; omega)
  refine dv 26 ?_
  (rw [b9f fK fU]; exact ⟨_, _, rfl, b7m (n := n) rfl rfl rfl⟩)
 have f4 : ¬ f = n.id := hg6
 refine dv 3 ?_
 refine rlB s5s a6q ?_
 refine dv 0 ?_
 refine x0x rfl rfl rfl (b3r c ⟨inc, ver, es⟩) ?_
 refine dc 3 (aS ?_ ?_)<;>intro hg7<;>try simp at hg7
 ·have fvi : ¬ d6r ⟨inc, ver, es⟩ := a1f (by simpa using hg7)
  have fU : ¬ b1u n f inc ver g es := by (rintro ⟨m1, m2, m3, m4, m5, m6, m7, m8, m9⟩; exact fvi ⟨⟨by show 0 ≤ inc; omega, m5.2⟩, m6, m8⟩)
  refine dv 18 ?_
  (rw [b9f fK fU]; exact ⟨_, _, rfl, b7m (n := n) rfl rfl rfl⟩)
 have fvi : d6r ⟨inc, ver, es⟩ := a1c.1 (by simpa using hg7)
 have fv1 := fvi.1
 have fv2 := fvi.2.1
 have fv3 : a9h okE a2q es 100 = true := fvi.2.2
 dsimp only at fv1 fv2
 refine dc 4 (aS ?_ ?_)<;>intro h<;>try simp at h
 ·have fU : ¬ b1u n f inc ver g es := by (rintro ⟨m1, m2, m3, m4, m5, m6, m7, m8, m9⟩; omega)
  refine dv 14 ?_
  (rw [b9f fK fU]; exact ⟨_, _, rfl, b7m (n := n) rfl rfl rfl⟩)
 refine dv 1 ?_
 refine x0x rfl rfl rfl (z3z ..) (dc 3 (aS ?_ ?_))<;>intro h<;>try simp at h
 ·have fU : ¬ b1u n f inc ver g es := by (rintro ⟨m1, m2, m3, m4, m5, m6, m7, m8, m9⟩; omega)
  refine dv 9 ?_
  (rw [b9f fK fU]; exact ⟨_, _, rfl, b7m (n := n) rfl rfl rfl⟩)
 refine dv 2 ?_
 refine x0x rfl rfl rfl (u7u ..) (dc 2 (aI ?_ ?_))<;>intro h<;>try simp at h
 ·have fU : ¬ b1u n f inc ver g es := by (rintro ⟨m1, m2, m3, m4, m5, m6, m7, m8, m9⟩; omega)
  refine dv 4 ?_
  (rw [b9f fK fU]; exact ⟨_, _, rfl, b7m (n := n) rfl rfl rfl⟩)
 refine dv 5 fun K K' => ?_
 refine u9u 5 rfl fun hlen => ?_
 refine x5x (ι := Nat) (fun i γ1 => [(14, pI (i : Int))]) (fun i γ1 => []) (fun i => i ≤ es.length ∧ d0v es (fun _ e => a0h e.to = n.id ∧ (e.from' = -1 ∨ a0h e.from' = f)) i) (fun i => es.length - i) (q3q [1, 2, 3, 4, 5, 6, 12, 13] rfl) (a0j [0, 1, 2, 3, 4, 5, 6, 7, 8, 9, 10, 11] rfl) 0 ⟨by omega, a1u⟩ [] x6x x4x rfl fun i γ1 hi => ?_
 obtain ⟨k1, k2⟩ := hi
 refine dc 6 (fun K K' => aI ?_ ?_)<;>intro h<;>try simp at h
 ·obtain ⟨e, he⟩ := gE es i
  have heo : c1p e := of_decide_eq_true ((s0s fv3).2 e (List.mem_of_getElem? he))
  have heb := heo.2.2.1
  refine dv 9 fun K K' => ?_
  refine x0x rfl rfl rfl (a0s ..) (dc 4 (aS ?_ ?_))<;>intro hg15<;>try simp at hg15
  ·have fE : ¬ (a0h e.to = n.id ∧ (e.from' = -1 ∨ a0h e.from' = f)) := fun q => (by have := q.1; omega)
   refine dv 17 ?_
   have fU : ¬ b1u n f inc ver g es := fun q => fE (q.2.2.2.2.2.2.2.2 e (List.mem_of_getElem? he))
   refine dv 4 ?_
   (rw [b9f fK fU]; exact ⟨_, _, rfl, b7m (n := n) rfl rfl rfl⟩)
  have e1 : a0h e.to = n.id := hg15
  refine dc 7 (aS ?_ ?_)<;>intro h<;>try simp at h
  ·have hE : a0h e.to = n.id ∧ (e.from' = -1 ∨ a0h e.from' = f) := ⟨e1, .inl (by omega)⟩
   refine dv 13 ?_
   refine u1u rfl rfl rfl (dv 1 ?_)
   exact ⟨i + 1, ⟨⟨by omega, a0i k2 he hE⟩, by omega⟩, [], (Cov.cons' (t := 14) rfl (by rw [x9x (by omega) (by omega)]; rfl) Cov.nil), x6x, x4x, x4x, rfl⟩
  refine dv 5 ?_
  refine x0x rfl rfl rfl (a0s ..) (dc 4 (aS ?_ ?_))<;>intro hc17<;>try simp at hc17
  ·have hE : a0h e.to = n.id ∧ (e.from' = -1 ∨ a0h e.from' = f) := ⟨e1, .inr hc17⟩
   refine dv 3 ?_
   refine u1u rfl rfl rfl (dv 1 ?_)
   exact ⟨i + 1, ⟨⟨by omega, a0i k2 he hE⟩, by omega⟩, [], (Cov.cons' (t := 14) rfl (by rw [x9x (by omega) (by omega)]; rfl) Cov.nil), x6x, x4x, x4x, rfl⟩
  have fE : ¬ (a0h e.to = n.id ∧ (e.from' = -1 ∨ a0h e.from' = f)) := by (rintro ⟨q1, q2 | q2⟩ <;> omega)
  have fU : ¬ b1u n f inc ver g es := fun q => fE (q.2.2.2.2.2.2.2.2 e (List.mem_of_getElem? he))
  refine dv 4 ?_
  (rw [b9f fK fU]; exact ⟨_, _, rfl, b7m (n := n) rfl rfl rfl⟩)
 have hall := a3t k2 (by omega)
 have fH : b1u n f inc ver g es := ⟨fUp, by omega, by omega, f4, by omega, by omega, by omega, fv3, fun e he => by obtain ⟨i, hi⟩ := List.getElem?_of_mem he; exact hall i e hi⟩
 obtain ⟨k, rfl⟩ : ∃ k : Nat, f = (k : Int) := ⟨f.toNat, by have := fH.2.2.1; omega⟩
 have hk3 : k < 3 := by have := fH.2.2.1; omega
 obtain ⟨kn, hkn⟩ := gE n.known k
 obtain ⟨v, hv⟩ := gE n.views k
 have hes : es.length ≤ 100 := by have := (s0s fH.2.2.2.2.2.2.2.1).1; omega
 obtain ⟨M, hM⟩ : ∃ M, M = b7l n k inc ver g es := ⟨_, rfl⟩
 have hv9 : n.version ≤ 9998 := by have := fH.2.1; omega
 have hv0 := fS.1.2.2.2.2.1.1
 refine dv 1 ?_
 refine w8w (ι := Unit) (fun _i γ2 => []) (fun _i γ2 => [(8, ((0 + 1), .row 3 1 ((n.known.set k (max kn g)).map a3i)))]) (fun _i => True) (q3q [1, 2, 3, 5, 6, 12, 13] rfl) (a0j [0, 1, 2, 3, 4, 5, 6, 7, 9, 10, 11] rfl) ?_ fun _i γ2 hi => ?_
 ·refine dv 5 ?_
  refine y3y (j := k) rfl rfl a0l rfl s4s rfl rfl (z0z hkn) ?_
  refine dc 2 (aS ?_ ?_)<;>intro h<;>try simp at h
  ·have hmx : max kn g = kn := by omega
   refine dv 1 ?_
   exact ⟨(), trivial, [], x6x, x6x, (HE.row rfl (by rw [hmx, e8u hkn]) HE.nil), x4x, rfl⟩
  have hmx : max kn g = g := by omega
  refine dv 5 ?_
  refine y3y (j := k) rfl rfl a0l rfl s4s rfl rfl (z0z hkn) ?_
  refine a8v (el' := g) rfl rfl s4s rfl rfl rfl hkn rfl (by omega) (.val rfl rfl .nil) rfl rfl ?_
  exact ⟨(), trivial, [], x6x, x6x, (HE.row rfl (by (rw [hmx]; done)) HE.nil), x4x, rfl⟩
 ·try dsimp only [a9u, a9v]
  refine dv 6 ?_
  refine x2x (id := 3) s5s a6q rfl (dv 1 ?_)
  refine w8w (ι := Unit) (fun _i γ3 => []) (fun _i γ3 => [(2, ((0 + 1), .box 65 [pI M.id, .pv (.bool M.up), pI M.inc, pI M.g, .ref 6 (0 + 1), s1s true M.kept, q7q true M.outs, pI M.led, pI M.version, .ref 7 (0 + 1), .ref 8 (0 + 1), pI M.round, pI M.low])), (6, ((0 + 1), .row 44 5 ((M.lanes).map (q1q true)))), (7, ((0 + 1), .row 190 3 ((M.views).map (a2l true)))), (8, ((0 + 1), .row 3 1 (M.known.map a3i))), (4, ((γ3 4), .dead)), (5, ((γ3 5), .dead))]) (fun _i => True) (q3q [6, 12, 13] rfl) (a0j [0, 1, 3, 9, 10, 11] rfl) ?_ fun _i γ3 hi => ?_
  ·refine dc 6 (aS ?_ ?_)<;>intro h<;>try simp at h
   ·refine dv 11 ?_
    have hL : c9w v inc ver := .inl (by omega)
    refine dv 6 ?_
    refine x0x rfl rfl rfl (b3s c v.events es n.g) (dc 7 (fun K K' => aS ?_ ?_))<;>intro h<;>try simp at h
    ·have hlow : n.low = M.low := by rw [hM, a2k hv hkn hL]; show _ = chg n.g v.events (chg n.g es n.low v.events) es; rw [c2m n.g v.events es (m := n.low) (by have := fS.1.2.2.2.2.2.2; omega)]; omega
     refine dv 7 ?_
     refine y1y (id := 4) u4u rfl z2z rfl (dv 1 ?_)
     refine a1w p1p (zs := es.map y8y) rfl rfl u4u rfl z2z rfl rfl rfl (z6z (fun _ => rfl) _) rfl (by simp only [s3s, T56]; omega) (Le.ow_map _ (fun _ => rfl) (fun _ => rfl)) ?_
     refine rlB s5s a6q ?_
     refine y3y (j := k) rfl rfl a9w rfl s5s rfl rfl (z0z hv) ?_
     refine u3u (el' := ⟨inc, ver, es⟩) rfl rfl s5s rfl rfl rfl hv rfl (s6s rfl) rfl rfl ?_
     refine dv 0 ?_
     exact ⟨(), trivial, [0, 0, 0, 0, _, _], x6x, x6x, (HE.box rfl (by rw [← hlow]; (rw [hM, a2k hv hkn hL] <;> rfl)) (HE.row rfl (by (rw [hM, a2k hv hkn hL] <;> rfl)) (HE.row rfl (by (rw [hM, a2k hv hkn hL] <;> rfl)) (HE.row rfl (by (rw [hM, a2k hv hkn hL] <;> rfl)) (HE.kill rfl (HE.kill rfl HE.nil)))))), x4x, rfl⟩
    have hlow : chg n.g v.events (chg n.g es 41 v.events) es = M.low := by rw [hM, a2k hv hkn hL]; show _ = chg n.g v.events (chg n.g es n.low v.events) es; rw [c2m n.g v.events es (m := n.low) (by have := fS.1.2.2.2.2.2.2; omega)]; omega
    refine dv 10 ?_
    refine y1y (id := 4) u4u rfl z2z rfl (dv 1 ?_)
    refine a1w p1p (zs := es.map y8y) rfl rfl u4u rfl z2z rfl rfl rfl (z6z (fun _ => rfl) _) rfl (by simp only [s3s, T56]; omega) (Le.ow_map _ (fun _ => rfl) (fun _ => rfl)) ?_
    refine rlB s5s a6q ?_
    refine y3y (j := k) rfl rfl a9w rfl s5s rfl rfl (z0z hv) ?_
    refine u3u (el' := ⟨inc, ver, es⟩) rfl rfl s5s rfl rfl rfl hv rfl (s6s rfl) rfl rfl ?_
    refine dv 0 ?_
    exact ⟨(), trivial, [0, 0, 0, 0, _, _], x6x, x6x, (HE.box rfl (by rw [← hlow]; (rw [hM, a2k hv hkn hL] <;> rfl)) (HE.row rfl (by (rw [hM, a2k hv hkn hL] <;> rfl)) (HE.row rfl (by (rw [hM, a2k hv hkn hL] <;> rfl)) (HE.row rfl (by (rw [hM, a2k hv hkn hL] <;> rfl)) (HE.kill rfl (HE.kill rfl HE.nil)))))), x4x, rfl⟩
   refine dc 5 (aS ?_ ?_)<;>intro h<;>try simp at h
   ·refine dv 6 ?_
    have hL : ¬ c9w v inc ver := by rintro (q | ⟨q1, q2⟩) <;> omega
    have hlow : n.low = M.low := by rw [hM, b0t hv hkn hL]
    refine dv 1 ?_
    exact ⟨(), trivial, [0, 0, 0, 0, _, _], x6x, x6x, (HE.box rfl (by rw [← hlow]; (rw [hM, b0t hv hkn hL] <;> rfl)) (HE.row rfl (by (rw [hM, b0t hv hkn hL] <;> rfl)) (HE.row rfl (by (rw [hM, b0t hv hkn hL] <;> rfl)) (HE.row rfl (by (rw [hM, b0t hv hkn hL] <;> rfl)) (HE.kill rfl (HE.kill rfl HE.nil)))))), x4x, rfl⟩
   refine dc 6 (aS ?_ ?_)<;>intro h<;>try simp at h
   ·have hL : ¬ c9w v inc ver := by rintro (q | ⟨q1, q2⟩) <;> omega
    have hlow : n.low = M.low := by rw [hM, b0t hv hkn hL]
    refine dv 1 ?_
    exact ⟨(), trivial, [0, 0, 0, 0, _, _], x6x, x6x, (HE.box rfl (by rw [← hlow]; (rw [hM, b0t hv hkn hL] <;> rfl)) (HE.row rfl (by (rw [hM, b0t hv hkn hL] <;> rfl)) (HE.row rfl (by (rw [hM, b0t hv hkn hL] <;> rfl)) (HE.row rfl (by (rw [hM, b0t hv hkn hL] <;> rfl)) (HE.kill rfl (HE.kill rfl HE.nil)))))), x4x, rfl⟩
   have hL : c9w v inc ver := .inr ⟨by omega, by omega⟩
   refine dv 6 ?_
   refine x0x rfl rfl rfl (b3s c v.events es n.g) (dc 7 (fun K K' => aS ?_ ?_))<;>intro h<;>try simp at h
   ·have hlow : n.low = M.low := by rw [hM, a2k hv hkn hL]; show _ = chg n.g v.events (chg n.g es n.low v.events) es; rw [c2m n.g v.events es (m := n.low) (by have := fS.1.2.2.2.2.2.2; omega)]; omega
    refine dv 7 ?_
    refine y1y (id := 4) u4u rfl z2z rfl (dv 1 ?_)
    refine a1w p1p (zs := es.map y8y) rfl rfl u4u rfl z2z rfl rfl rfl (z6z (fun _ => rfl) _) rfl (by simp only [s3s, T56]; omega) (Le.ow_map _ (fun _ => rfl) (fun _ => rfl)) ?_
    refine rlB s5s a6q ?_
    refine y3y (j := k) rfl rfl a9w rfl s5s rfl rfl (z0z hv) ?_
    refine u3u (el' := ⟨inc, ver, es⟩) rfl rfl s5s rfl rfl rfl hv rfl (s6s rfl) rfl rfl ?_
    refine dv 0 ?_
    exact ⟨(), trivial, [0, 0, 0, 0, _, _], x6x, x6x, (HE.box rfl (by rw [← hlow]; (rw [hM, a2k hv hkn hL] <;> rfl)) (HE.row rfl (by (rw [hM, a2k hv hkn hL] <;> rfl)) (HE.row rfl (by (rw [hM, a2k hv hkn hL] <;> rfl)) (HE.row rfl (by (rw [hM, a2k hv hkn hL] <;> rfl)) (HE.kill rfl (HE.kill rfl HE.nil)))))), x4x, rfl⟩
   have hlow : chg n.g v.events (chg n.g es 41 v.events) es = M.low := by rw [hM, a2k hv hkn hL]; show _ = chg n.g v.events (chg n.g es n.low v.events) es; rw [c2m n.g v.events es (m := n.low) (by have := fS.1.2.2.2.2.2.2; omega)]; omega
   refine dv 10 ?_
   refine y1y (id := 4) u4u rfl z2z rfl (dv 1 ?_)
   refine a1w p1p (zs := es.map y8y) rfl rfl u4u rfl z2z rfl rfl rfl (z6z (fun _ => rfl) _) rfl (by simp only [s3s, T56]; omega) (Le.ow_map _ (fun _ => rfl) (fun _ => rfl)) ?_
   refine rlB s5s a6q ?_
   refine y3y (j := k) rfl rfl a9w rfl s5s rfl rfl (z0z hv) ?_
   refine u3u (el' := ⟨inc, ver, es⟩) rfl rfl s5s rfl rfl rfl hv rfl (s6s rfl) rfl rfl ?_
   refine dv 0 ?_
   exact ⟨(), trivial, [0, 0, 0, 0, _, _], x6x, x6x, (HE.box rfl (by rw [← hlow]; (rw [hM, a2k hv hkn hL] <;> rfl)) (HE.row rfl (by (rw [hM, a2k hv hkn hL] <;> rfl)) (HE.row rfl (by (rw [hM, a2k hv hkn hL] <;> rfl)) (HE.row rfl (by (rw [hM, a2k hv hkn hL] <;> rfl)) (HE.kill rfl (HE.kill rfl HE.nil)))))), x4x, rfl⟩
  ·try dsimp only [a9u, a9v]
   obtain ⟨w1, w2, w3⟩ := d7g n k inc ver g es
   rw [← hM] at w1 w2 w3
   have hwM : wk M := by rw [hM]; exact e7r (d9b fS) hes
   have hpcM : M.lanes.length = (q6q M.id 4).length := by rw [w1, w3]; exact fS.2.2.2.2.1
   have hwA : wk (nl M (a0e M M.lanes)) := c9v _ (Nat.le_refl _) hwM
   have hLA : (a0e M M.lanes).length ≤ 4 := hwA.1
   refine dv 3 ?_
   refine rlM [6, 7, 8] [_, _, _] (b5h M hwM) rfl rfl rfl ?_
   refine rlM [6, 7, 8] [_, _, _] (b3t c n (nl M (a0e M M.lanes)) (d9b fS) hwA w1.symm ⟨by omega, by omega⟩) rfl rfl rfl ?_
   refine dv 2 fun K K' => ?_
   refine v5v (b := b9w true (b0s n M).lanes) 2 4 rfl rfl rfl (.ref rfl (Le.ow_map _ (fun _ => rfl) (fun _ => rfl)) .nil) rfl rfl rfl rfl ?_
   refine v5v (b := c1r true (b0s n M).views) 2 9 rfl rfl rfl (.ref rfl (Le.ow_map _ (fun _ => rfl) (fun _ => rfl)) .nil) rfl rfl rfl rfl ?_
   refine v5v (b := a4n true (b0s n M).known) 2 10 rfl rfl rfl (.ref rfl (Le.ow_map _ (fun _ => rfl) (fun _ => rfl)) .nil) rfl rfl rfl rfl ?_
   refine dv 2 ?_
   refine x0x rfl rfl rfl (p2p true (b0s n M)) ?_
   refine dc 1 (aI ?_ ?_)<;>intro hc31<;>try simp at hc31
   ·have fX2 : ¬ y4y (b0s n M) := a1f (by simpa using hc31)
    refine dv 2 ?_
    refine rlM [9, 10, 11] [_, _, _] (y6y c n fb) rfl rfl rfl ?_
    refine dv 2 ?_
    (rw [e9v fK fH, ← hM, b1s fX2]; exact ⟨_, _, rfl, b7m (n := n) rfl rfl rfl⟩)
   have fK2 : y4y (b0s n M) := a1c.1 (by simpa using hc31)
   have fb2 := c0q fK2.1
   refine dv 3 ?_
   refine rlM [9, 10, 11] [_, _, _] (y6y true (b0s n M) fb2) rfl rfl rfl ?_
   refine dv 2 ?_
   (rw [e9v fK fH, ← hM, b1r fK2]; exact ⟨_, _, rfl, b7m (n := b0s n M) rfl rfl rfl⟩)
end
section
theorem a9r (c : Bool) (n : Nd) (w : Wo) : a0t Tryz.prog 74 [.agg (u2u c n), .agg (v8v c w)] (.tup [.agg (u2u true (p4p n w).1), w7w true (p4p n w).2]) := by
 refine pX Tryz.f74 [.agg (u2u true (p4p n w).1), w7w true (p4p n w).2] 12 ?_
 refine dv 1 ?_
 refine x8x (id := 0) rfl rfl rfl (x8x (id := 1) rfl rfl rfl (x2x (id := 2) u6u p9p rfl (dv 2 ?_)))
 refine y1y (id := 3) r6r rfl p0p rfl (dv 4 fun K K' => ?_)
 refine x0x rfl rfl rfl (p2p ..) (dc 1 (aI ?_ ?_))<;>intro hc2<;>try simp at hc2
 ·have fX : ¬ y4y n := a1f (by simpa using hc2)
  refine dv 1 ?_
  refine rlB u6u p9p ?_
  refine dv 4 ?_
  (rw [f5p fX]; exact ⟨_, _, rfl, b7n (a2s (l := ([] : List Wo)) rfl .nil)⟩)
 have fK : y4y n := a1c.1 (by simpa using hc2)
 have fS := fK.1
 have fb := c0q fS
 refine dc 7 (fun K K' => aS ?_ ?_)<;>intro hg4<;>try simp at hg4
 ·have fU : ¬ b1z n w := fun h => by have := h.1; simp_all
  refine dv 18 ?_
  try have fU : ¬ b1z n w := fun h => by have := h.2.2.1; have := h.2.2.2; omega
  refine dv 2 ?_
  refine rlM [9, 10, 11] [_, _, _] (y6y c n fb) rfl rfl rfl ?_
  refine dv 4 ?_
  (rw [d7k fK fU]; exact ⟨_, _, rfl, r4r rfl rfl rfl (a2s (l := ([] : List Wo)) rfl .nil)⟩)
 have fUp : n.up = true := hg4
 refine dv 1 ?_
 refine x0x rfl rfl rfl (b3j ..) (dc 3 (aS ?_ ?_))<;>intro hg5<;>try simp at hg5
 ·try have fU : ¬ b1z n w := fun h => absurd h.2.1 hg5
  refine dv 13 ?_
  try have fU : ¬ b1z n w := fun h => by have := h.2.2.1; have := h.2.2.2; omega
  refine dv 2 ?_
  refine rlM [9, 10, 11] [_, _, _] (y6y c n fb) rfl rfl rfl ?_
  refine dv 4 ?_
  (rw [d7k fK fU]; exact ⟨_, _, rfl, r4r rfl rfl rfl (a2s (l := ([] : List Wo)) rfl .nil)⟩)
 have fW : a4i w := hg5
 refine dc 7 (aS ?_ ?_)<;>intro j<;>try simp at j
 ·try have fU : ¬ b1z n w := fun h => by have := h.2.2.1; omega
  refine dv 6 ?_
  try have fU : ¬ b1z n w := fun h => by have := h.2.2.1; have := h.2.2.2; omega
  refine dv 2 ?_
  refine rlM [9, 10, 11] [_, _, _] (y6y c n fb) rfl rfl rfl ?_
  refine dv 4 ?_
  (rw [d7k fK fU]; exact ⟨_, _, rfl, r4r rfl rfl rfl (a2s (l := ([] : List Wo)) rfl .nil)⟩)
 refine dc 6 (aI ?_ ?_)<;>intro j<;>try simp at j
 ·try have fU : ¬ b1z n w := fun h => by have := h.2.2.1; have := h.2.2.2; omega
  refine dv 2 ?_
  refine rlM [9, 10, 11] [_, _, _] (y6y c n fb) rfl rfl rfl ?_
  refine dv 4 ?_
  (rw [d7k fK fU]; exact ⟨_, _, rfl, r4r rfl rfl rfl (a2s (l := ([] : List Wo)) rfl .nil)⟩)
 have fM : b1z n w := ⟨fUp, fW, by omega, by omega⟩
 refine dc 9 (fun K K' => aI ?_ ?_)<;>intro hc9<;>try simp at hc9
 ·have k1 : w.kind = 1 := hc9
  refine dv 12 ?_
  refine x0x rfl rfl rfl (b5i c n w.from' w.inc w.version w.g w.events) ?_
  refine dv 4 ?_
  (rw [b9h fK fM, f2s k1]; exact ⟨_, _, rfl, d3g (a2s (l := ([] : List Wo)) rfl .nil)⟩)
 have n1 : ¬ w.kind = 1 := hc9
 refine dc 3 (aI ?_ ?_)<;>intro hc10<;>try simp at hc10
 ·have k2 : w.kind = 2 := hc10
  refine dv 4 ?_
  refine x0x rfl rfl rfl (a6x ..) (dv 4 ?_)
  refine x2x (id := 4) u6u p9p rfl (x2x (id := 5) p0p b0r rfl (dc 5 (aI ?_ ?_)))<;>intro hc11<;>try simp at hc11
  ·have hr : (v0v n w.round).2.2 = true := hc11
   refine dv 3 ?_
   refine y2y (id := 6) r6r rfl p0p rfl rfl rfl rfl rfl rfl (dv 3 ?_)
   (rw [b9h fK fM, e7w k2 hr]; exact ⟨_, _, rfl, d3g (a2s (l := [(v0v n w.round).2.1]) rfl .nil)⟩)
  have hr : ¬ (v0v n w.round).2.2 = true := by simpa using hc11
  have hE : p4p n w = (n, []) := by rw [b9h fK fM, e7x k2 hr]
  refine dv 3 ?_
  refine rlM [9, 10, 11] [_, _, _] (y6y c n fb) rfl rfl rfl ?_
  refine dv 4 ?_
  (rw [hE]; exact ⟨_, _, rfl, r4r rfl rfl rfl (a2s (l := ([] : List Wo)) rfl .nil)⟩)
 have n2 : ¬ w.kind = 2 := hc10
 refine dc 3 (aS ?_ ?_)<;>intro hc12<;>try simp at hc12
 ·have n4 : ¬ w.kind = 4 := hc12
  refine dc 3 (aS ?_ ?_)<;>intro hc16<;>try simp at hc16
  ·have n6 : ¬ w.kind = 6 := hc16
   have hE : p4p n w = (n, []) := by rw [b9h fK fM, f2t n1 n2 n4 n6]
   refine dv 3 ?_
   refine rlM [9, 10, 11] [_, _, _] (y6y c n fb) rfl rfl rfl ?_
   refine dv 4 ?_
   (rw [hE]; exact ⟨_, _, rfl, r4r rfl rfl rfl (a2s (l := ([] : List Wo)) rfl .nil)⟩)
  have k6 : w.kind = 6 := hc16
  refine dc 6 (aS ?_ ?_)<;>intro hc17<;>try simp at hc17
  ·have h6 : ¬ w.inc = n.inc := hc17
   have hE : p4p n w = (n, []) := by rw [b9h fK fM, e8a k6 h6]
   refine dv 3 ?_
   refine rlM [9, 10, 11] [_, _, _] (y6y c n fb) rfl rfl rfl ?_
   refine dv 4 ?_
   (rw [hE]; exact ⟨_, _, rfl, r4r rfl rfl rfl (a2s (l := ([] : List Wo)) rfl .nil)⟩)
  have h6 : w.inc = n.inc := hc17
  refine dv 6 ?_
  refine x0x rfl rfl rfl (a6y ..) (dv 3 ?_)
  refine x2x (id := 8) u6u p9p rfl (dv 8 ?_)
  (rw [b9h fK fM, e7z k6 h6]; exact ⟨_, _, rfl, d3g (a2s (l := ([] : List Wo)) rfl .nil)⟩)
 have k4 : w.kind = 4 := hc12
 refine dc 7 (aS ?_ ?_)<;>intro j<;>try simp at j
 ·refine dv 4 ?_
  have h4 : ¬ (w.round = n.round ∧ 0 < w.round) := by omega
  have hE : p4p n w = (n, []) := by rw [b9h fK fM, d7l k4 h4]
  refine dv 3 ?_
  refine rlM [9, 10, 11] [_, _, _] (y6y c n fb) rfl rfl rfl ?_
  refine dv 4 ?_
  (rw [hE]; exact ⟨_, _, rfl, r4r rfl rfl rfl (a2s (l := ([] : List Wo)) rfl .nil)⟩)
 refine dc 4 (aS ?_ ?_)<;>intro j<;>try simp at j
 ·have h4 : ¬ (w.round = n.round ∧ 0 < w.round) := by omega
  have hE : p4p n w = (n, []) := by rw [b9h fK fM, d7l k4 h4]
  refine dv 3 ?_
  refine rlM [9, 10, 11] [_, _, _] (y6y c n fb) rfl rfl rfl ?_
  refine dv 4 ?_
  (rw [hE]; exact ⟨_, _, rfl, r4r rfl rfl rfl (a2s (l := ([] : List Wo)) rfl .nil)⟩)
 have h4 : w.round = n.round ∧ 0 < w.round := by omega
 refine dv 2 ?_
 refine rlM [9, 10, 11] [_, _, _] (y6y c n fb) rfl rfl rfl ?_
 refine dv 8 ?_
 refine rlB p0p b0r ?_
 refine y2y (id := 7) r6r rfl p0p rfl rfl rfl rfl rfl rfl (dv 3 ?_)
 (rw [b9h fK fM, e7y k4 h4]; exact ⟨_, _, rfl, r4r rfl rfl rfl (f7w (k := 5) (f := n.id) (t := 0) (i := n.inc) (v := n.version) (r := n.round) (g := 0) rfl .nil)⟩)
theorem c5l (c : Bool) (h : Hb) (n : Nd) : a0t Tryz.prog 311 [.agg (a8n true h), .agg (u2u c n)] (.tup [.agg (a8n true (q5q h n).1), .agg (u2u true (q5q h n).2.1), w7w true (q5q h n).2.2]) := by
 refine pX Tryz.f311 [.agg (a8n true (q5q h n).1), .agg (u2u true (q5q h n).2.1), w7w true (q5q h n).2.2] 17 ?_
 refine dv 1 ?_
 refine x8x (id := 0) rfl rfl rfl (x8x (id := 1) rfl rfl rfl (x2x (id := 2) a7q b6y rfl (x2x (id := 3) u6u p9p rfl (dv 2 ?_))))
 refine y1y (id := 4) r6r rfl p0p rfl (dv 4 fun K K' => ?_)
 refine x0x rfl rfl rfl (b0n ..) (dc 2 (aS ?_ ?_))<;>intro hg2<;>try simp at hg2
 ·have fX : ¬ (a0v h ∧ y4y n) := fun q => a1f (by simpa using hg2) q.1
  refine dv 5 ?_
  refine rlB a7q b6y ?_
  refine rlB u6u p9p ?_
  refine dv 5 ?_
  (rw [e4q fX]; exact ⟨_, _, rfl, d7x (b7n (a2s (l := ([] : List Wo)) rfl .nil))⟩)
 have fH : a0v h := a1c.1 (by simpa using hg2)
 refine dv 1 ?_
 refine x0x rfl rfl rfl (p2p ..) (dc 2 (aI ?_ ?_))<;>intro hc3<;>try simp at hc3
 ·try have fX : ¬ (a0v h ∧ y4y n) := fun q => a1f (by simpa using hc3) q.2
  refine dv 1 ?_
  refine rlB a7q b6y ?_
  refine rlB u6u p9p ?_
  refine dv 5 ?_
  (rw [e4q fX]; exact ⟨_, _, rfl, d7x (b7n (a2s (l := ([] : List Wo)) rfl .nil))⟩)
 have fK : y4y n := a1c.1 (by simpa using hc3)
 have fS := fK.1
 have fb := c0q fS
 refine dv 3 ?_
 refine rlM [11, 12, 13] [_, _, _] (y6y c n fb) rfl rfl rfl ?_
 refine x2x (id := 5) u6u p9p rfl (dv 4 ?_)
 refine r1r (.int .i64 (n.led + 1)) rfl rfl rfl (a6o rfl rfl (by have := fS.1.2.2.2.1; omega) (by have := fS.1.2.2.2.1; omega)) ?_
 refine dc 8 (fun K K' => aS ?_ ?_)<;>intro hg5<;>try simp at hg5
 ·have fU : ¬ a5e n := fun q => by have := q.1; omega
  refine dv 10 ?_
  try have fU : ¬ a5e n := fun q => by have := q.2.2.1; omega
  refine dv 2 ?_
  refine x0x rfl rfl rfl (a3p true h fH) (dv 1 ?_)
  refine rlM [14, 15, 16] [_, _, _] (y6y c n fb) rfl rfl rfl ?_
  refine dv 5 ?_
  (rw [c4u ⟨fH, fK⟩ fU]; exact ⟨_, _, rfl, a9n (r4r rfl rfl rfl (a2s (l := ([] : List Wo)) rfl .nil))⟩)
 have hid : n.id = 0 := hg5
 refine dc 5 (aS ?_ ?_)<;>intro hg6<;>try simp at hg6
 ·try have fU : ¬ a5e n := fun h => by have := h.2.1; simp_all
  refine dv 5 ?_
  try have fU : ¬ a5e n := fun q => by have := q.2.2.1; omega
  refine dv 2 ?_
  refine x0x rfl rfl rfl (a3p true h fH) (dv 1 ?_)
  refine rlM [14, 15, 16] [_, _, _] (y6y c n fb) rfl rfl rfl ?_
  refine dv 5 ?_
  (rw [c4u ⟨fH, fK⟩ fU]; exact ⟨_, _, rfl, a9n (r4r rfl rfl rfl (a2s (l := ([] : List Wo)) rfl .nil))⟩)
 have fUp : n.up = true := hg6
 refine dv 2 ?_
 refine x0x rfl rfl rfl (u7u ..) (dc 2 (aI ?_ ?_))<;>intro j<;>try simp at j
 ·try have fU : ¬ a5e n := fun q => by have := q.2.2.1; omega
  refine dv 2 ?_
  refine x0x rfl rfl rfl (a3p true h fH) (dv 1 ?_)
  refine rlM [14, 15, 16] [_, _, _] (y6y c n fb) rfl rfl rfl ?_
  refine dv 5 ?_
  (rw [c4u ⟨fH, fK⟩ fU]; exact ⟨_, _, rfl, a9n (r4r rfl rfl rfl (a2s (l := ([] : List Wo)) rfl .nil))⟩)
 have hld : n.led < 9999 := by omega
 refine dv 5 ?_
 refine b2m rfl rfl rfl (c4q (n := d2t n) rfl rfl rfl (.cl rfl .nil)) (a6x false (d2t n) (n.led + 1)) (.tup (a3r (e7s _) (a3r (e7t _) (a3r (.pv _) e9x)))) ?_
 refine dv 4 ?_
 refine x2x (id := 6) u6u p9p rfl (x2x (id := 7) p0p b0r rfl (dc 7 (fun K K' => aI ?_ ?_)))<;>intro hc9<;>try simp at hc9
 ·have fU : ¬ a5e n := fun q => by have hb := (d3b fK hld).2 ⟨q.2.1, q.2.2.2⟩; have hx := hc9; simp only [d2t] at hb hx; simp_all
  refine dv 2 ?_
  refine x0x rfl rfl rfl (a3p true h fH) (dv 1 ?_)
  refine rlM [14, 15, 16] [_, _, _] (y6y c n fb) rfl rfl rfl ?_
  refine dv 5 ?_
  (rw [c4u ⟨fH, fK⟩ fU]; exact ⟨_, _, rfl, a9n (r4r rfl rfl rfl (a2s (l := ([] : List Wo)) rfl .nil))⟩)
 have hrb := (d3b fK hld).1 (by have hx := hc9; simp only [d2t] at hx ⊢; exact hx)
 have fM : a5e n := ⟨hid, fUp, hld, hrb.2⟩
 have hEq := e8j (h := h) ⟨fH, fK⟩ fM
 refine dv 3 ?_
 refine x0x rfl rfl rfl (a3p true h fH) (x2x (id := 8) a7q b6y rfl (dv 8 ?_))
 refine y2y (id := 9) r6r rfl p0p rfl rfl rfl rfl rfl rfl (dv 3 ?_)
 refine y1y (id := 10) r6r rfl p0p rfl (dv 7 ?_)
 refine rlB p0p b0r ?_
 refine x0x rfl rfl rfl (b9m 2 0 0 0 0 (n.led + 1) 0) ?_
 refine dv 4 ?_
 (rw [show v0v (d2t n) (n.led + 1) = _ from hEq]; rw [d4y ⟨fH, fK⟩ fM]; exact ⟨_, _, rfl, f6e (a := [e3i (d2t n) (n.led + 1)]) (c := ([] : List Wo)) rfl rfl (d3g (.cl rfl .nil))⟩)
end
section
theorem b0z (c : Bool) (h : Hb) (n : Nd) (w : Wo) : a0t Tryz.prog 322 [.agg (a8n true h), .agg (u2u c n), .agg (v8v c w)] (.tup [.agg (a8n true (w1w h n w).1), .agg (u2u true (w1w h n w).2.1), w7w true (w1w h n w).2.2]) := by
 refine pX Tryz.f322 [.agg (a8n true (w1w h n w).1), .agg (u2u true (w1w h n w).2.1), w7w true (w1w h n w).2.2] 14 ?_
 refine dv 1 ?_
 refine x8x (id := 0) rfl rfl rfl (x8x (id := 1) rfl rfl rfl (x8x (id := 2) rfl rfl rfl (x2x (id := 3) a7q b6y rfl (x2x (id := 4) u6u p9p rfl (dv 2 ?_)))))
 refine y1y (id := 5) r6r rfl p0p rfl (dv 4 fun K K' => ?_)
 refine x0x rfl rfl rfl (b0n ..) (dc 2 (aS ?_ ?_))<;>intro hg2<;>try simp at hg2
 ·have fX : ¬ (a0v h ∧ y4y n) := fun q => a1f (by simpa using hg2) q.1
  refine dv 5 ?_
  refine rlB a7q b6y ?_
  refine rlB u6u p9p ?_
  refine dv 5 ?_
  (rw [f5t fX]; exact ⟨_, _, rfl, d7x (b7n (a2s (l := ([] : List Wo)) rfl .nil))⟩)
 have fH : a0v h := a1c.1 (by simpa using hg2)
 refine dv 1 ?_
 refine x0x rfl rfl rfl (p2p ..) (dc 2 (aI ?_ ?_))<;>intro hc3<;>try simp at hc3
 ·try have fX : ¬ (a0v h ∧ y4y n) := fun q => a1f (by simpa using hc3) q.2
  refine dv 1 ?_
  refine rlB a7q b6y ?_
  refine rlB u6u p9p ?_
  refine dv 5 ?_
  (rw [f5t fX]; exact ⟨_, _, rfl, d7x (b7n (a2s (l := ([] : List Wo)) rfl .nil))⟩)
 have fK : y4y n := a1c.1 (by simpa using hc3)
 have fS := fK.1
 have fb := c0q fS
 refine dv 3 ?_
 refine x0x rfl rfl rfl (a3p true h fH) (x2x (id := 6) a7q b6y rfl (dv 3 ?_))
 refine rlM [10, 11, 12] [_, _, _] (y6y c n fb) rfl rfl rfl ?_
 refine x2x (id := 7) u6u p9p rfl (dc 7 (fun K K' => aS ?_ ?_))<;>intro hg5<;>try simp at hg5
 ·have fU : ¬ a1n n w := fun q => by have := q.1; omega
  refine dv 19 ?_
  try have fU : ¬ a1n n w := fun q => by have := q.2.2.2.2; omega
  refine dv 8 ?_
  (rw [e5h ⟨fH, fK⟩ fU]; exact ⟨_, _, rfl, a9n (r4r rfl rfl rfl (a2s (l := ([] : List Wo)) rfl .nil))⟩)
 try have hid : n.id = 0 := hg5
 refine dc 5 (aS ?_ ?_)<;>intro hg6<;>try simp at hg6
 ·try have fU : ¬ a1n n w := fun q => by have := q.2.1; simp_all
  refine dv 14 ?_
  try have fU : ¬ a1n n w := fun q => by have := q.2.2.2.2; omega
  refine dv 8 ?_
  (rw [e5h ⟨fH, fK⟩ fU]; exact ⟨_, _, rfl, a9n (r4r rfl rfl rfl (a2s (l := ([] : List Wo)) rfl .nil))⟩)
 have fUp : n.up = true := hg6
 refine dv 1 ?_
 refine x0x rfl rfl rfl (b3j ..) (dc 3 (aS ?_ ?_))<;>intro hg7<;>try simp at hg7
 ·try have fU : ¬ a1n n w := fun q => absurd q.2.2.1 hg7
  refine dv 9 ?_
  try have fU : ¬ a1n n w := fun q => by have := q.2.2.2.2; omega
  refine dv 8 ?_
  (rw [e5h ⟨fH, fK⟩ fU]; exact ⟨_, _, rfl, a9n (r4r rfl rfl rfl (a2s (l := ([] : List Wo)) rfl .nil))⟩)
 have fW : a4i w := hg7
 refine dc 5 (aS ?_ ?_)<;>intro hg8<;>try simp at hg8
 ·try have fU : ¬ a1n n w := fun q => by have := q.2.2.2.1; omega
  refine dv 4 ?_
  try have fU : ¬ a1n n w := fun q => by have := q.2.2.2.2; omega
  refine dv 8 ?_
  (rw [e5h ⟨fH, fK⟩ fU]; exact ⟨_, _, rfl, a9n (r4r rfl rfl rfl (a2s (l := ([] : List Wo)) rfl .nil))⟩)
 try have hto : w.to = 0 := hg8
 refine dc 4 (aI ?_ ?_)<;>intro o<;>try simp at o
 ·try have fU : ¬ a1n n w := fun q => by have := q.2.2.2.2; omega
  refine dv 8 ?_
  (rw [e5h ⟨fH, fK⟩ fU]; exact ⟨_, _, rfl, a9n (r4r rfl rfl rfl (a2s (l := ([] : List Wo)) rfl .nil))⟩)
 have fM : a1n n w := ⟨hid, fUp, fW, hto, by omega⟩
 refine dc 9 (fun K K' => aI ?_ ?_)<;>intro hc11<;>try simp at hc11
 ·try have k7 : w.kind = 7 := hc11
  refine dv 5 ?_
  refine x0x rfl rfl rfl (d0m h.outs w.from') ?_
  refine dv 3 ?_
  refine x2x (id := 8) p0p b0r rfl (dc 6 (aS ?_ ?_))<;>intro hg12<;>try simp at hg12
  ·have hnone : (b7q w.from' h.outs).isSome = false := by simpa using hg12
   refine dv 6 ?_
   have hl : a3z h w = true := e8k hnone
   have hE : w1w h n w = ({ h with outs := a7x w true h.outs false }, n, []) := by rw [b7s ⟨fH, fK⟩ fM, f0b k7 hl]
   refine dv 4 ?_
   refine x0x rfl rfl rfl (a4w c w (d2s fW)) ?_
   refine x0x rfl rfl rfl (a8q h.outs w true (by have := b7p fH.2.2.2.1; omega)) ?_
   refine dv 10 ?_
   (rw [hE]; exact ⟨_, _, rfl, a9n (u := { h with outs := a7x w true h.outs false }) (r4r rfl rfl rfl (a2s (l := ([] : List Wo)) rfl .nil))⟩)
  have hsome : (b7q w.from' h.outs).isSome = true := hg12
  refine dc 6 (aS ?_ ?_)<;>intro o<;>try simp at o
  ·have hl : ¬ a3z h w = true := fun q => by have := (d3c hsome).1 q; omega
   have hE : w1w h n w = (h, n, []) := by rw [b7s ⟨fH, fK⟩ fM, f5u k7 hl]
   refine dv 9 ?_
   (rw [hE]; exact ⟨_, _, rfl, a9n (u := h) (r4r rfl rfl rfl (a2s (l := ([] : List Wo)) rfl .nil))⟩)
  have hl : a3z h w = true := (d3c hsome).2 (by omega)
  have hE : w1w h n w = ({ h with outs := a7x w true h.outs false }, n, []) := by rw [b7s ⟨fH, fK⟩ fM, f0b k7 hl]
  refine dv 4 ?_
  refine x0x rfl rfl rfl (a4w c w (d2s fW)) ?_
  refine x0x rfl rfl rfl (a8q h.outs w true (by have := b7p fH.2.2.2.1; omega)) ?_
  refine dv 10 ?_
  (rw [hE]; exact ⟨_, _, rfl, a9n (u := { h with outs := a7x w true h.outs false }) (r4r rfl rfl rfl (a2s (l := ([] : List Wo)) rfl .nil))⟩)
 try have n7 : ¬ w.kind = 7 := hc11
 refine dc 3 (aI ?_ ?_)<;>intro hc15<;>try simp at hc15
 ·try have k3 : w.kind = 3 := hc15
  refine dc 8 (fun K K' => aS ?_ ?_)<;>intro hg17<;>try simp at hg17
  ·try have hr : ¬ w.round = h.round := hg17
   refine dv 17 ?_
   have hm : ¬ d9m h w := fun q => by obtain ⟨q1, q2, q3, q4⟩ := q; omega
   have hE : w1w h n w = (h, n, []) := by rw [b7s ⟨fH, fK⟩ fM, d7v k3 hm]
   refine dv 8 ?_
   (rw [hE]; exact ⟨_, _, rfl, a9n (u := h) (r4r rfl rfl rfl (a2s (l := ([] : List Wo)) rfl .nil))⟩)
  try have hr : w.round = h.round := hg17
  refine dc 6 (aS ?_ ?_)<;>intro hg18<;>try simp at hg18
  ·try have hz : w.incs.length = 0 := by (rw [hg18]; rfl)
   refine dv 11 ?_
   have hm : ¬ d9m h w := fun q => by obtain ⟨q1, q2, q3, q4⟩ := q; omega
   have hE : w1w h n w = (h, n, []) := by rw [b7s ⟨fH, fK⟩ fM, d7v k3 hm]
   refine dv 8 ?_
   (rw [hE]; exact ⟨_, _, rfl, a9n (u := h) (r4r rfl rfl rfl (a2s (l := ([] : List Wo)) rfl .nil))⟩)
  have hi1 : ¬ w.incs.length = 0 := by (intro q; exact hg18 (List.length_eq_zero_iff.1 q))
  refine dc 6 (aS ?_ ?_)<;>intro hg19<;>try simp at hg19
  ·try have hz2 : w.versions.length = 0 := by (rw [hg19]; rfl)
   refine dv 5 ?_
   have hm : ¬ d9m h w := fun q => by obtain ⟨q1, q2, q3, q4⟩ := q; omega
   have hE : w1w h n w = (h, n, []) := by rw [b7s ⟨fH, fK⟩ fM, d7v k3 hm]
   refine dv 8 ?_
   (rw [hE]; exact ⟨_, _, rfl, a9n (u := h) (r4r rfl rfl rfl (a2s (l := ([] : List Wo)) rfl .nil))⟩)
  have hv1 : ¬ w.versions.length = 0 := by (intro q; exact hg19 (List.length_eq_zero_iff.1 q))
  refine dc 5 (aI ?_ ?_)<;>intro o<;>try simp at o
  ·have hm : ¬ d9m h w := fun q => by obtain ⟨q1, q2, q3, q4⟩ := q; omega
   have hE : w1w h n w = (h, n, []) := by rw [b7s ⟨fH, fK⟩ fM, d7v k3 hm]
   refine dv 8 ?_
   (rw [hE]; exact ⟨_, _, rfl, a9n (u := h) (r4r rfl rfl rfl (a2s (l := ([] : List Wo)) rfl .nil))⟩)
  have hm : d9m h w := ⟨hr, hi1, hv1, by omega⟩
  refine dv 5 ?_
  refine x0x rfl rfl rfl (a4w c w (d2s fW)) ?_
  refine x0x rfl rfl rfl (a8q h.ones w false (by have := b7p fH.2.1; omega)) ?_
  refine dc 7 (aS ?_ ?_)<;>intro o<;>try simp at o
  ·have h3 : ¬ (d7n h w).ones.length = 3 := by show ¬ (a7x w false h.ones false).length = 3; omega
   have hE : w1w h n w = (d7n h w, n, []) := by rw [b7s ⟨fH, fK⟩ fM, f5w k3 hm h3]
   refine dv 9 ?_
   (rw [hE]; exact ⟨_, _, rfl, a9n (u := d7n h w) (r4r rfl rfl rfl (a2s (l := ([] : List Wo)) rfl .nil))⟩)
  have h3 : (d7n h w).ones.length = 3 := by show (a7x w false h.ones false).length = 3; omega
  have hE : w1w h n w = ({ d7n h w with twos := [f6r h n] }, n, e6d (f2u h.round)) := by rw [b7s ⟨fH, fK⟩ fM, f5v k3 hm h3]
  refine dv 7 ?_
  refine rlB p0p b0r ?_
  refine y2y (id := 9) r6r rfl p0p rfl rfl rfl rfl rfl rfl (dv 7 ?_)
  refine rlB p0p b0r ?_
  refine x0x rfl rfl rfl (b9m 4 0 0 0 0 h.round 0) (dv 4 ?_)
  (rw [hE]; exact ⟨_, _, rfl, f6d (R := h.round) (a := (d7n h w).ones) (b := h.outs) (k := 5) (f := 0) (t := 0) (i := n.inc) (v := n.version) (r := h.round) (g := 0) rfl (r4r rfl rfl rfl (.cl rfl .nil))⟩)
 try have n3 : ¬ w.kind = 3 := hc15
 refine dc 3 (aS ?_ ?_)<;>intro hc25<;>try simp at hc25
 ·try have n5 : ¬ w.kind = 5 := hc25
  have hE : w1w h n w = (h, n, []) := by rw [b7s ⟨fH, fK⟩ fM, f7t n7 n3 n5]
  refine dv 9 ?_
  (rw [hE]; exact ⟨_, _, rfl, a9n (u := h) (r4r rfl rfl rfl (a2s (l := ([] : List Wo)) rfl .nil))⟩)
 try have k5 : w.kind = 5 := hc25
 refine dc 8 (fun K K' => aS ?_ ?_)<;>intro hg27<;>try simp at hg27
 ·try have hr : ¬ w.round = h.round := hg27
  refine dv 11 ?_
  have hm : ¬ e6f h w := fun q => by obtain ⟨q1, q2, q3⟩ := q; omega
  have hE : w1w h n w = (h, n, []) := by rw [b7s ⟨fH, fK⟩ fM, e5i k5 hm]
  refine dv 8 ?_
  (rw [hE]; exact ⟨_, _, rfl, a9n (u := h) (r4r rfl rfl rfl (a2s (l := ([] : List Wo)) rfl .nil))⟩)
 try have hr : w.round = h.round := hg27
 refine dc 6 (aS ?_ ?_)<;>intro o<;>try simp at o
 ·refine dv 5 ?_
  have hm : ¬ e6f h w := fun q => by obtain ⟨q1, q2, q3⟩ := q; omega
  have hE : w1w h n w = (h, n, []) := by rw [b7s ⟨fH, fK⟩ fM, e5i k5 hm]
  refine dv 8 ?_
  (rw [hE]; exact ⟨_, _, rfl, a9n (u := h) (r4r rfl rfl rfl (a2s (l := ([] : List Wo)) rfl .nil))⟩)
 refine dc 5 (aI ?_ ?_)<;>intro o<;>try simp at o
 ·have hm : ¬ e6f h w := fun q => by obtain ⟨q1, q2, q3⟩ := q; omega
  have hE : w1w h n w = (h, n, []) := by rw [b7s ⟨fH, fK⟩ fM, e5i k5 hm]
  refine dv 8 ?_
  (rw [hE]; exact ⟨_, _, rfl, a9n (u := h) (r4r rfl rfl rfl (a2s (l := ([] : List Wo)) rfl .nil))⟩)
 have hm : e6f h w := ⟨hr, by omega, by omega⟩
 refine dv 5 ?_
 refine x0x rfl rfl rfl (a4w c w (d2s fW)) ?_
 refine x0x rfl rfl rfl (a8q h.twos w false (by have := b7p fH.2.2.1; omega)) ?_
 refine dv 4 ?_
 refine x0x rfl rfl rfl (c5i true (b2c h w)) ?_
 refine dc 7 (aS ?_ ?_)<;>intro hc30<;>try simp at hc30
 ·have hj : ¬ (r2r (b2c h w)).2 = true := by simpa using hc30
  have hE : w1w h n w = ((b2c h w), n, []) := by rw [b7s ⟨fH, fK⟩ fM, f5y k5 hm hj]
  refine dv 9 ?_
  (rw [hE]; exact ⟨_, _, rfl, a9n (u := b2c h w) (r4r rfl rfl rfl (a2s (l := ([] : List Wo)) rfl .nil))⟩)
 have hj : (r2r (b2c h w)).2 = true := hc30
 have hjo := e5g hj
 have hE : w1w h n w = ((b2c h w), (z1z n h.round (r2r (b2c h w)).1).1, b6f (b2c h w) (r2r (b2c h w)).1 2) := by rw [b7s ⟨fH, fK⟩ fM, f5x k5 hm hj]
 refine dv 5 ?_
 refine x0x rfl rfl rfl (a6y c n h.round (r2r (b2c h w)).1) ?_
 refine dv 8 ?_
 refine rlB p0p b0r ?_
 refine rlM [13] [_] (c5h 6 0 0 0 0 h.round (r2r (b2c h w)).1) rfl rfl rfl ?_
 refine dv 5 fun K K' => ?_
 refine x5x (ι := Nat) (fun i γ1 => [(17, pI (i : Int))]) (fun i γ1 => [(13, ((0 + 1), .row 79 11 ((b6f (b2c h w) (r2r (b2c h w)).1 i).map (v8v true))))]) (fun i => i ≤ 2) (fun i => 2 - i) (q3q [6, 7, 10, 11, 16] rfl) (a0j [0, 1, 2, 3, 4, 5, 6, 7, 8, 9, 10, 11, 12] rfl) 0 (by omega) [] x6x (HE.row rfl (by rfl) HE.nil) rfl fun i γ1 hi => ?_
 refine dv 4 fun K K' => ?_
 refine a3y (n := 2) rfl r6r rfl rfl (by simp [b6f]) ?_
 refine dc 1 (aS ?_ ?_)<;>intro o<;>try simp at o
 ·obtain rfl : i = 2 := by omega
  refine dv 9 ?_
  (rw [hE]; exact ⟨_, _, rfl, a9n (u := b2c h w) (d3g (a2s (l := b6f (b2c h w) (r2r (b2c h w)).1 2) rfl .nil))⟩)
 have hi2 : i < 2 := by omega
 have hat := e5d (b2c h w) (r2r (b2c h w)).1 hi2
 have hlen : (b6f (b2c h w) (r2r (b2c h w)).1 i).length = 2 := by simp [b6f]
 obtain ⟨b, hb⟩ : ∃ b, (b2c h w).twos[i + 1]? = some b := ⟨_, List.getElem?_eq_getElem (by have := hjo.2.2.1; omega)⟩
 refine dv 10 fun K K' => ?_
 refine y3y (j := i) rfl rfl r6r rfl p0p rfl rfl (by omega) ?_
 refine dv 2 ?_
 refine a9c (j := i + 1) rfl rfl r6r rfl p0p rfl hb ?_
 refine dv 2 ?_
 refine y3y (j := i) rfl rfl r6r rfl p0p rfl rfl (by omega) ?_
 refine dv 1 ?_
 refine a8v (d0c (b2c h w) (r2r (b2c h w)).1 (i + 1)) rfl rfl s4s rfl rfl rfl hat rfl (by decide) (.val rfl rfl .nil) (by rw [show b.inc = (d0c (b2c h w) (r2r (b2c h w)).1 (i + 1)).inc from (e5f hb _).symm]; rfl) rfl ?_
 refine dv 2 ?_
 refine x7x (b := 1) rfl rfl (by omega) (dv 1 ?_)
 exact ⟨i + 1, ⟨by omega, by omega⟩, [], x6x, x6x, (HE.row rfl (by rw [d9p _ _ hi2]) HE.nil), x4x, rfl⟩
theorem c6r (c : Bool) (h : Hb) (n : Nd) : a0t Tryz.prog 326 [.agg (a8n true h), .agg (u2u c n)] (q7q true (a9m h n)) := by
 refine pX Tryz.f326 [q7q true (a9m h n)] 8 ?_
 refine dv 1 ?_
 refine x8x (id := 0) rfl rfl rfl (x8x (id := 1) rfl rfl rfl (dv 2 ?_))
 refine y1y (id := 2) p5p rfl z9z rfl (dv 4 fun K K' => ?_)
 refine x0x rfl rfl rfl (b0n ..) (dc 2 (aS ?_ ?_))<;>intro hg2<;>try simp at hg2
 ·have fX : ¬ (a0v h ∧ y4y n ∧ n.id = 0 ∧ h.outs.length = 2) := fun q => a1f (by simpa using hg2) q.1
  refine dv 15 ?_
  try have fX : ¬ (a0v h ∧ y4y n ∧ n.id = 0 ∧ h.outs.length = 2) := fun q => by have := q.2.2.2; omega
  refine dv 4 ?_
  (rw [d3e fX]; exact a5d (l := ([] : List Ou)) rfl rfl (fun _ => rfl) rfl)
 have fH : a0v h := a1c.1 (by simpa using hg2)
 refine dv 1 ?_
 refine x0x rfl rfl rfl (p2p ..) (dc 3 (aS ?_ ?_))<;>intro hg3<;>try simp at hg3
 ·try have fX : ¬ (a0v h ∧ y4y n ∧ n.id = 0 ∧ h.outs.length = 2) := fun q => a1f (by simpa using hg3) q.2.1
  refine dv 10 ?_
  try have fX : ¬ (a0v h ∧ y4y n ∧ n.id = 0 ∧ h.outs.length = 2) := fun q => by have := q.2.2.2; omega
  refine dv 4 ?_
  (rw [d3e fX]; exact a5d (l := ([] : List Ou)) rfl rfl (fun _ => rfl) rfl)
 have fK : y4y n := a1c.1 (by simpa using hg3)
 refine dc 5 (aS ?_ ?_)<;>intro hg4<;>try simp at hg4
 ·try have fX : ¬ (a0v h ∧ y4y n ∧ n.id = 0 ∧ h.outs.length = 2) := fun q => by have := q.2.2.1; omega
  refine dv 5 ?_
  try have fX : ¬ (a0v h ∧ y4y n ∧ n.id = 0 ∧ h.outs.length = 2) := fun q => by have := q.2.2.2; omega
  refine dv 4 ?_
  (rw [d3e fX]; exact a5d (l := ([] : List Ou)) rfl rfl (fun _ => rfl) rfl)
 try have hid : n.id = 0 := hg4
 refine dc 5 (aI ?_ ?_)<;>intro o<;>try simp at o
 ·try have fX : ¬ (a0v h ∧ y4y n ∧ n.id = 0 ∧ h.outs.length = 2) := fun q => by have := q.2.2.2; omega
  refine dv 4 ?_
  (rw [d3e fX]; exact a5d (l := ([] : List Ou)) rfl rfl (fun _ => rfl) rfl)
 have h2 : h.outs.length = 2 := by omega
 have fT : a0v h ∧ y4y n ∧ n.id = 0 ∧ h.outs.length = 2 := ⟨fH, fK, hid, h2⟩
 have hno := (v9v fK.1).2.2.1
 have hwo := d7w fH.2.2.2.1
 refine dv 9 ?_
 refine w2w (zs := n.outs.map w3w) rfl rfl p5p rfl z9z rfl rfl rfl (z6z (fun _ => rfl) _) rfl (by (simp only [s3s, r0r, r5r, r8r, a0p, a2m, T141]; omega)) ?_
 refine dv 5 fun K K' => ?_
 refine x5x (ι := Nat) (fun i γ1 => [(5, .ref 2 (γ1 2)), (6, pI (a1q n.g (h.outs.take i))), (7, pI (i : Int))]) (fun i γ1 => [(2, ((γ1 2), .row 141 5 ((n.outs ++ (h.outs.take i).flatMap Wo.outs).map w3w))), (4, ((γ1 4), .dead))]) (fun i => i ≤ h.outs.length) (fun i => h.outs.length - i) (y0y 2 rfl Cov.nil) (a0j [0, 1, 3, 5, 6, 7] rfl) 0 (by omega) [0, 0, _, 0, _] (y0y 5 rfl (Cov.cons' (t := 6) rfl (rfl) (y0y 7 rfl Cov.nil))) (HE.row rfl (by simp) (HE.kill rfl HE.nil)) rfl fun i γ1 hi => ?_
 refine dc 7 (fun K K' => aI ?_ ?_)<;>intro o<;>try simp at o
 ·obtain ⟨w, hw⟩ := gE h.outs i
  have hw96 := hwo w (List.mem_of_getElem? hw)
  have hfl := a1h (f := Wo.outs) (k := 96) (l := h.outs.take i) fun a ha => hwo a (List.mem_of_mem_take ha)
  have htl : (h.outs.take i).length ≤ 2 := by rw [List.length_take]; omega
  refine dv 3 fun K K' => ?_
  refine w8w (ι := Unit) (fun _i γ2 => [(6, pI (a1q n.g (h.outs.take (i + 1))))]) (fun _i γ2 => []) (fun _i => True) (q3q [2, 5, 7] rfl) (a0j [0, 1, 2, 3, 4, 5, 6, 7] rfl) ?_ fun _i γ2 hi => ?_
  ·refine dc 9 (aS ?_ ?_)<;>intro o<;>try simp at o
   ·have hlt : ¬ w.g < a1q n.g (h.outs.take i) := by omega
    refine dv 1 ?_
    exact ⟨(), trivial, [], (Cov.cons' (t := 6) rfl (congrArg (fun v : Int => AV.pv (.int .i64 v)) (d7u hw hlt)) Cov.nil), x6x, x4x, x4x, rfl⟩
   have hlt : w.g < a1q n.g (h.outs.take i) := by omega
   refine dv 8 ?_
   exact ⟨(), trivial, [], (Cov.cons' (t := 6) rfl (congrArg (fun v : Int => AV.pv (.int .i64 v)) (d7t hw hlt)) Cov.nil), x6x, x4x, x4x, rfl⟩
  ·try dsimp only [a9u, a9v]
   refine dv 8 ?_
   refine w2w (zs := (n.outs ++ (h.outs.take i).flatMap Wo.outs ++ w.outs).map w3w) rfl rfl p5p rfl z9z rfl rfl rfl (z6z (fun _ => rfl) _) (a5c _ _ _) (by (simp only [s3s, r0r, r5r, r8r, a0p, a2m, T141]; omega)) ?_
   refine dv 3 ?_
   refine x7x (b := 1) rfl rfl (by omega) (dv 1 ?_)
   exact ⟨i + 1, ⟨by omega, by omega⟩, [0, 0, _, 0, _], x6x, x6x, (HE.row rfl (by rw [a2h hw, List.append_assoc]) (HE.kill rfl HE.nil)), x4x, rfl⟩
 obtain rfl : i = h.outs.length := by omega
 rw [List.take_length]
 refine dv 1 ?_
 have hall : (n.outs ++ h.outs.flatMap Wo.outs).length ≤ 10000 := by have hfl := a1h (f := Wo.outs) (k := 96) (l := h.outs) hwo; rw [List.length_append]; omega
 obtain ⟨A, hA⟩ : ∃ A, A = (n.outs ++ h.outs.flatMap Wo.outs) := ⟨_, rfl⟩
 rw [← hA] at hall ⊢
 refine w5w 5 rfl rfl (fun _ => rfl) ?_
 refine dv 1 ?_
 refine y1y (id := 5) p5p rfl z9z rfl (dv 5 fun K K' => ?_)
 refine x5x (ι := Nat) (fun j γ3 => [(8, .ref 5 (γ3 5)), (9, pI (j : Int))]) (fun j γ3 => [(5, ((γ3 5), .row 141 5 (((A.take j).filter (d5c (a1q n.g h.outs))).map w3w))), (6, ((γ3 6), .dead)), (7, ((γ3 7), .dead))]) (fun j => j ≤ A.length) (fun j => A.length - j) (q3q [5, 6] rfl) (a0j [0, 1, 2, 3, 4] rfl) 0 (by omega) [0, 0, 0, 0, 0, _, _, _] x6x (HE.row rfl (by rw [List.take_zero]; rfl) (HE.kill rfl (HE.kill rfl HE.nil))) rfl fun j γ3 hi => ?_
 refine dc 6 (fun K K' => aS ?_ ?_)<;>intro o<;>try simp at o
 ·obtain rfl : j = A.length := by omega
  have hfl3 : (A.filter (d5c (a1q n.g h.outs))).length ≤ 10000 := Nat.le_trans (List.length_filter_le _ _) (by omega)
  refine dv 1 ?_
  rw [List.take_length]
  refine w5w 8 rfl rfl (fun _ => rfl) ?_
  refine dv 2 ?_
  refine x0x rfl rfl rfl (a4u true (A.filter (d5c (a1q n.g h.outs))) (by omega)) ?_
  refine dv 2 ?_
  (rw [f0c fT, ← hA]; exact x3x rfl rfl rfl)
 obtain ⟨p, hp⟩ := gE A j
 have hfl2 : ((A.take j).filter (d5c (a1q n.g h.outs))).length ≤ 10000 := Nat.le_trans (List.length_filter_le _ _) (by rw [List.length_take]; omega)
 refine dc 11 (fun K K' => aS ?_ ?_)<;>intro o<;>try simp at o
 ·have hq : ¬ d5c (a1q n.g h.outs) p = true := fun q => by have := of_decide_eq_true q; omega
  refine dv 3 ?_
  refine x7x (b := 1) rfl rfl (by omega) (dv 1 ?_)
  exact ⟨j + 1, ⟨by omega, by omega⟩, [0, 0, 0, 0, 0, _, _, _], x6x, x6x, (HE.row rfl (by rw [p7p hp]; rw [if_neg hq, List.append_nil]) (HE.kill rfl (HE.kill rfl HE.nil))), x4x, rfl⟩
 have hq : d5c (a1q n.g h.outs) p = true := decide_eq_true (by omega)
 refine dv 5 ?_
 refine u8u (out := .agg (w3w p)) rfl z9z rfl ?_
 refine y2y (id := 6) p5p rfl z9z rfl rfl rfl rfl rfl rfl ?_
 refine y7y (zs := ((A.take j).filter (d5c (a1q n.g h.outs)) ++ [p]).map w3w) rfl rfl p5p rfl z9z rfl rfl rfl rfl (by rfl) (z7z _ _ _) (by (simp only [s3s, r0r, r5r, r8r, a0p, a2m, T141]; omega)) ?_
 refine dv 3 ?_
 refine x7x (b := 1) rfl rfl (by omega) (dv 1 ?_)
 exact ⟨j + 1, ⟨by omega, by omega⟩, [0, 0, 0, 0, 0, _, _, _], x6x, x6x, (HE.row rfl (by rw [p7p hp]; rw [if_pos hq]) (HE.kill rfl (HE.kill rfl HE.nil))), x4x, rfl⟩
end
section
variable {W : Tw} {i : Nat}
theorem a6h (h : b9x W) {m : Nd} (hm : ndI m) : b9x { W with nodes := W.nodes.set i m } := ⟨h.1, by show (W.nodes.set i m).length = 3; rw [List.length_set]; exact h.2.1, f7u h.2.2.1 hm, h.2.2.2⟩
variable {r : List Wo}
theorem a7n (h : b9x W) (h1 : r.length ≤ 40) (h2 : ∀ x ∈ r, d0e x) : b9x { W with radio := r } := ⟨h.1, h.2.1, h.2.2.1, h1, h2, h.2.2.2.2.2⟩
theorem d3j (h : b9x W) {u : Hb} (hu : a0v u) : b9x { W with hub := u } := ⟨h.1, h.2.1, h.2.2.1, h.2.2.2.1, h.2.2.2.2.1, hu, h.2.2.2.2.2.2⟩
theorem f3p (h : b9x W) {s : List Ou} (hs : s.length ≤ 1000000) : b9x { W with sink := s } := ⟨h.1, h.2.1, h.2.2.1, h.2.2.2.1, h.2.2.2.2.1, h.2.2.2.2.2.1, hs⟩
theorem b1a (h : b9x W) (hi : i ≤ 2) : ∃ n, W.nodes[i]? = some n ∧ ndI n := by
 obtain ⟨n, hn⟩ := f3e h.2.1 i (by omega)
 exact ⟨n, hn, h.2.2.1 n (List.mem_of_getElem? hn)⟩
variable {m : List Wo}
theorem b5j (h : b9x W) (k : ∀ x ∈ m, d0e x) : b9x { W with radio := b3f W.radio m } := a7n h (e8g h.2.2.2.1) (e8h h.2.2.2.2.1 k)
theorem e5v {w : Wo} (h : m[i]? = some w) (hl : (r ++ m.take i).length < 40) : r ++ m.take i ++ [w] = r ++ m.take (i + 1) := by rw [z8z h, List.append_assoc]
theorem d7z (hr : r.length ≤ 40) (hi : i ≤ m.length) (h40 : r.length + i ≤ 40) (h : ¬ (i < m.length ∧ r.length + i < 40)) : r ++ m.take i = b3f r m := by
 unfold b3f
 rcases Nat.lt_or_ge i m.length with h1 | h1
 ·rw [show 40 - r.length = i from by omega]
 ·rw [List.take_of_length_le h1, List.take_of_length_le (by omega)]
variable {h : Hb} {n : Nd}
theorem e8v : (a9m h n).length ≤ 10000 := by
 by_cases k : a0v h ∧ y4y n ∧ n.id = 0 ∧ h.outs.length = 2
 ·rw [f0c k, b5r]
  have hno := (v9v k.2.1.1).2.2.1
  have hwo := d7w k.1.2.2.2.1
  have hfl := a1h (f := Wo.outs) (k := 96) (l := h.outs) hwo
  refine Nat.le_trans (List.length_filter_le _ _) ?_
  rw [List.length_append]; omega
 ·rw [d3e k]; exact Nat.zero_le _

def kpB : Bool → List Nat
 | true => [0]
 | false => [0, 1]
def kpS : List Wo → List Nat
 | [] => [0]
 | _ :: _ => []
theorem d5f (γ : Nat → Nat) (b : Bool) (f : List Nat → Nat → Nat) (h0 : f [γ 0, γ 1] 0 = γ 0) (h1 : f [γ 0, γ 1] 1 = γ 1) : (kpB b).map (f [γ 0, γ 1]) = (kpB b).map γ := by
 cases b <;> simp [kpB, h0, h1]
theorem c5m (k : a0v h ∧ y4y n) : ((q5q h n).2.2 = [] ∧ ¬ n.led < (q5q h n).2.1.led) ∨ n.led < (q5q h n).2.1.led := by
 by_cases m : a5e n
 ·rw [d4y k m]; exact .inr (by show n.led < n.led + 1; omega)
 ·rw [c4u k m]; exact .inl ⟨rfl, by show ¬ n.led < n.led; omega⟩
variable {j : Nat}
theorem e5w (h : b9x W) : (W.radio.take j ++ W.radio.drop (j + 1)).length ≤ 40 := by
 have := h.2.2.2.1
 simp only [List.length_append, List.length_take, List.length_drop]; omega
theorem e5x (h : b9x W) : ∀ q ∈ W.radio.take j ++ W.radio.drop (j + 1), d0e q := fun q hq =>
 h.2.2.2.2.1 q ((List.mem_append.1 hq).elim List.mem_of_mem_take List.mem_of_mem_drop)
theorem f3q {W T : Tw} (h : b9x W) (k : b9x T) : b9x { W with nodes := T.nodes } := ⟨h.1, k.2.1, k.2.2.1, h.2.2.2⟩
theorem b2e (bs : List Nat) (p n : Nat) : pk bs p n ≤ n := by
 rcases Nat.eq_zero_or_pos n with h | h
 ·subst h; unfold pk; rw [if_pos (.inl (by omega))]; exact Nat.le_refl _
 ·exact Nat.le_of_lt (a3f bs p n h)

def pSm (S : Sm) (p : Nat) : Sm := ⟨S.w, S.list, p⟩
theorem a3j {S : Sm} {c d p : Nat} (h : smOk S c) (hd : c ≤ d) (hp : p ≤ d) : smOk (pSm S p) d := ⟨h.1, Nat.le_trans h.2.1 hd, hp⟩

def f6s (l : List Ru) : Prop := ∀ (i : Nat) r, l[i]? = some r → r.kind = (i : Int) ∧ d0w r
theorem ru0 {k : Int} : d0w ⟨k, []⟩ := ⟨fun o h => (by cases h), Nat.zero_le _, Nat.zero_le _, Nat.zero_le _⟩
theorem f6j {l : List Ru} (hl : l.length ≤ 3) (h : f6s l) : e4o ⟨l⟩ := ⟨by show l.length ≤ 4; omega, fun i r hr => by
 have hi : i < l.length := (List.getElem?_eq_some_iff.1 hr).1
 have h1 := h i r hr
 refine ⟨by omega, h1.2, fun p h0 hp => ?_⟩
 have h2 := h _ p hp
 omega⟩
theorem f6k {l : List Ru} {ops : List Op_} {q q1 q2 : Nat} (h : f6s l) (ho : d0w ⟨(l.length : Int), ops⟩) (hl : l.length < 3) (h3 : q1 ≤ q + 40 * l.length) (h4 : q2 ≤ q1 + 40) : (l ++ [(⟨(l.length : Int), ops⟩ : Ru)]).length ≤ 3 ∧ f6s (l ++ [(⟨(l.length : Int), ops⟩ : Ru)]) ∧ q2 ≤ q + 40 * (l ++ [(⟨(l.length : Int), ops⟩ : Ru)]).length := by
 rw [List.length_append]
 refine ⟨by show l.length + 1 ≤ 3; omega, fun i r hr => ?_, by show q2 ≤ q + 40 * (l.length + 1); omega⟩
 rcases Nat.lt_or_ge i l.length with hi | hi
 ·rw [List.getElem?_append_left hi] at hr; exact h i r hr
 ·rw [List.getElem?_append_right hi] at hr
  cases e : i - l.length with
  | zero => rw [e] at hr; cases hr; exact ⟨by show (l.length : Int) = (i : Int); omega, ho⟩
  | succ n => rw [e] at hr; simp at hr
variable {l : List Ap}
theorem f6l {rs : List Ru} {p0 q q1 : Nat} (h : ∀ a ∈ l, e4o a) (ha : e4o ⟨rs⟩) (hl : l.length < 4) (h3 : q ≤ p0 + 120 * l.length) (h4 : q1 ≤ q + 40 * rs.length) (hr : rs.length ≤ 3) : (l ++ [(⟨rs⟩ : Ap)]).length ≤ 4 ∧ (∀ a ∈ l ++ [(⟨rs⟩ : Ap)], e4o a) ∧ q1 ≤ p0 + 120 * (l ++ [(⟨rs⟩ : Ap)]).length := by
 rw [List.length_append]
 refine ⟨by show l.length + 1 ≤ 4; omega, fun a hm => ?_, by show q1 ≤ p0 + 120 * (l.length + 1); omega⟩
 rcases List.mem_append.1 hm with hm | hm
 ·exact h a hm
 ·rw [List.mem_singleton.1 hm]; exact ha
theorem e8w (h : a7w l) : b9x ⟨0, l, b0u 3, [], hb0, []⟩ := ⟨h, rfl, fun n hn => by
 obtain ⟨i, hi, rfl⟩ := List.mem_map.1 hn
 have := List.mem_range.1 hi
 exact f3h _ (by omega), Nat.zero_le _, fun x h => (by cases h), e4y, Nat.zero_le _⟩
variable {p c : Nat}
theorem e8x (h : a7w l) (hp : p ≤ c) : smOk ⟨⟨0, l, b0u 3, [], hb0, []⟩, [], p⟩ c := ⟨e8w h, Nat.zero_le _, hp⟩
end
end Go.Proofs.YtlgknoapdbpojaaGreat.Am
