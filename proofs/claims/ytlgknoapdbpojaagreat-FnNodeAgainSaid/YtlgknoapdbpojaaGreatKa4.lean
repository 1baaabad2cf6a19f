/- Part 4 of the texts that the proof of LawFnNodeAgain leans on, merged by program. -/
import Derived.Test.YtlgknoapdbpojaaGreatKa3
set_option linter.unusedVariables false
set_option linter.unusedSimpArgs false
set_option maxHeartbeats 4000000
set_option autoImplicit true
set_option relaxedAutoImplicit true
namespace Go.Proofs.YtlgknoapdbpojaaGreat.Am
open Go Go.RowKit
section
variable {P : Program} {tt : TT} {ops : Array Oper} {r : List Oper} {fr : Fr} {h : Hp} {lg : Log} {K : Fr → Hp → Log → Prop} {d : Nat} {ty : TypeId} {pos : String} {af : Array Edge}
variable {t e id g id2 g2 ty2 : Nat} {x y : Operand} {S E : TS}

theorem e8x (htt : a2q P tt) {xs ys zs zs' : List (List AV)} (hx : evO fr x = some (.ref id g)) (hy : evO fr y = some (.ref id2 g2)) (hs : tt t = some S) (hk : S.kind = .sl e) (he : tt e = some E) (h2 : Nat.ble 1 E.size = true) (h3 : Nat.ble 1 E.bytes = true) (hh : y2y h id = some (g, .row e E.size xs)) (hh2 : y2y h id2 = some (g2, .row ty2 E.size ys))
  (how : (ys.flatten.all fun c => !c.isOw) = true) (hz : xs ++ ys = zs) (h4 : zs.length * E.bytes ≤ 140737488355328) (hle : Le true (.row .ow e E.size zs) (.row (.rd true) e E.size zs')) (k : v3v P tt ops r ((d, .row (.rd true) e E.size zs') :: fr) ((id, (g + 1, .dead)) :: h) (([id, id2], [id]) :: lg) K) :
  v3v P tt ops (⟨some d, .call { callee := .builtin .append, args := #[x, y], argTypes := #[t, t] }, ty, pos, af, none⟩ :: r) fr h lg K := by
 subst hz
 exact a5l (OpS.frz (b5i (T := [(id2, (g2, .row ty2 E.size ys))]) htt (h := h) rfl hs hk he hx hy (.inl (e1f hh2)) how (Nat.le_of_ble_eq_true h2) (Nat.le_of_ble_eq_true h3) (by rw [← List.length_append]; exact h4)) hle) (InH.cons hh (InH.one hh2)) Sub.one' k

theorem e8y (htt : a2q P tt) {α : Type} {f : α → List AV} {l l2 l' : List α} {id g id2 g2 ty2 lo hi : Nat} (hx : evO fr x = some (.ref id g)) (hy : evO fr y = some (.cut id2 g2 lo hi)) (hs : tt t = some S) (hk : S.kind = .sl e) (he : tt e = some E) (h2 : Nat.ble 1 E.size = true) (h3 : Nat.ble 1 E.bytes = true) (hh : y2y h id = some (g, .row e E.size (l.map f))) (hh2 : y2y h id2 = some (g2, .row ty2 E.size (l2.map f)))
  (hf : ∀ a, ((f a).all AV.cl) = true) (how : ((((l2.take hi).drop lo).map f).flatten.all fun c => !c.isOw) = true) (hz : l ++ (l2.take hi).drop lo = l') (h4 : l'.length * E.bytes ≤ 140737488355328) (k : v3v P tt ops r ((d, .row (.rd true) e E.size (l'.map f)) :: fr) ((id, (g + 1, .dead)) :: h) (([id, id2], [id]) :: lg) K) :
  v3v P tt ops (⟨some d, .call { callee := .builtin .append, args := #[x, y], argTypes := #[t, t] }, ty, pos, af, none⟩ :: r) fr h lg K := by
 subst hz
 have hm : l.map f ++ ((l2.map f).take hi).drop lo = (l ++ (l2.take hi).drop lo).map f := by rw [← List.map_take, ← List.map_drop, ← List.map_append]
 refine a5l (OpS.frz (b5i (T := [(id2, (g2, .row ty2 E.size (l2.map f)))]) htt (h := h) rfl hs hk he hx hy (.inl (e4f hh2)) (by rw [← List.map_take, ← List.map_drop]; exact how) (Nat.le_of_ble_eq_true h2) (Nat.le_of_ble_eq_true h3) (by rw [← List.length_append, hm, List.length_map]; exact h4)) (by rw [hm]; exact Le.ow_map _ (fun _ => rfl) hf)) (InH.cons hh (InH.one hh2)) Sub.one' k
end
section
theorem a5q (r : Int) : a0q Tryz.prog 301 [.pv (.int .i64 r)] (.pv (.bool (decide (0 ≤ r ∧ r ≤ 1)))) := by
 refine pX Tryz.f301 [.pv (.bool (decide (0 ≤ r ∧ r ≤ 1)))] 0 ?_
 refine dv 4 ?_
 refine x0x rfl rfl rfl (z1z r 0 1) (dv 2 ?_)
 exact x2x rfl rfl rfl
theorem d0m (o : Op_) : a0q Tryz.prog 270 [.agg (b4q o)] (.pv (.bool (decide (b2u o)))) := by
 refine pX Tryz.f270 [.pv (.bool (decide (b2u o)))] 1 ?_
 refine dv 1 ?_
 refine y0y (id := 0) rfl rfl rfl (v1v rfl (a1s fun K K' => ?_))
 refine exR (u8u rfl a1v rfl rfl s3s rfl rfl (y7y rfl s3s rfl rfl (a5d ?_)))
 refine p7p (ι := Bool) (fun b γ1 => [(5, .pv (.bool (b)))]) (fun b γ1 => []) (fun b => b = decide (o.do' = 1 ∨ o.do' = 3)) (q8q [1, 4] rfl) (u9u 0 rfl HE.nil) ?_ fun b γ1 hi => ?_
 ·refine exR (b1o rfl rfl rfl (v1v rfl (a0z rfl ?_ ?_)))<;>intro h<;>try simp at h
  ·refine b0o ?_
   repeat clear K' K
   exact ⟨_, (by (simp_all; done)), [], (x7x 5 rfl Cov.nil), (x7x 1 rfl (x7x 4 rfl Cov.nil)), HE.nil, (u9u 0 rfl HE.nil), rfl⟩
  refine a0t v4v (by rfl) (b1o rfl rfl rfl (v1v rfl ?_))
  exact ⟨_, (by (show (_ : Bool) = _; rw [Bool.eq_iff_iff]; simp; omega)), [], (x7x 5 rfl Cov.nil), (x7x 1 rfl (x7x 4 rfl Cov.nil)), HE.nil, (u9u 0 rfl HE.nil), rfl⟩
 ·try dsimp only [b1d, b1e]
  subst hi
  refine dc 0 (aI ?_ ?_)<;>intro h<;>try simp at h
  ·refine dv 3 ?_
   refine x0x rfl rfl rfl (a5q ..) (dc 1 (aS ?_ ?_))<;>intro h<;>try simp at h
   ·refine dv 15 ?_
    refine x2x rfl ?_ rfl
    exact congrArg (fun b : Bool => [AV.pv (.bool b)]) ((decide_eq_false (by simp only [b2u, a3s, b6i]; omega)).symm)
   refine dv 2 ?_
   refine x0x rfl rfl rfl (a5p ..) (dc 2 (aS ?_ ?_))<;>intro h<;>try simp at h
   ·refine dv 10 ?_
    refine x2x rfl ?_ rfl
    exact congrArg (fun b : Bool => [AV.pv (.bool b)]) ((decide_eq_false (by simp only [b2u, a3s, b6i]; omega)).symm)
   refine dc 5 (aS ?_ ?_)<;>intro h<;>try simp at h
   ·refine dv 5 ?_
    refine x2x rfl ?_ rfl
    exact congrArg (fun b : Bool => [AV.pv (.bool b)]) ((decide_eq_false (by simp only [b2u, a3s, b6i]; omega)).symm)
   refine dv 6 ?_
   refine x2x rfl ?_ rfl
   exact congrArg (fun b : Bool => [AV.pv (.bool b)]) (decide_eq_decide.2 (by simp only [b2u, a3s, b6i]; omega))
  refine dc 3 (aI ?_ ?_)<;>intro h<;>try simp at h
  ·refine dv 3 ?_
   refine x0x rfl rfl rfl (a5q ..) (dc 1 (aS ?_ ?_))<;>intro h<;>try simp at h
   ·refine dv 15 ?_
    refine x2x rfl ?_ rfl
    exact congrArg (fun b : Bool => [AV.pv (.bool b)]) ((decide_eq_false (by simp only [b2u, a3s, b6i]; omega)).symm)
   refine dv 2 ?_
   refine x0x rfl rfl rfl (a5q ..) (dc 2 (aS ?_ ?_))<;>intro h<;>try simp at h
   ·refine dv 10 ?_
    refine x2x rfl ?_ rfl
    exact congrArg (fun b : Bool => [AV.pv (.bool b)]) ((decide_eq_false (by simp only [b2u, a3s, b6i]; omega)).symm)
   refine dc 5 (aS ?_ ?_)<;>intro h<;>try simp at h
   ·refine dv 5 ?_
    refine x2x rfl ?_ rfl
    exact congrArg (fun b : Bool => [AV.pv (.bool b)]) ((decide_eq_false (by simp only [b2u, a3s, b6i]; omega)).symm)
   refine u8u rfl a1v rfl rfl s3s rfl rfl (b3z rfl rfl (y7y rfl s3s rfl rfl (b3z rfl rfl (b1o rfl rfl rfl (c2n rfl rfl (v1v rfl (a8x ⟨.inr rfl, ?_⟩)))))))
   refine x2x rfl ?_ rfl
   exact congrArg (fun b : Bool => [AV.pv (.bool b)]) (decide_eq_decide.2 (by simp only [b2u, a3s, b6i]; omega))
  refine p7p (ι := Bool) (fun b γ2 => [(46, .pv (.bool (b)))]) (fun b γ2 => []) (fun b => b = decide (o.do' = 4 ∨ o.do' = 7)) (q8q [1, 4] rfl) (u9u 0 rfl HE.nil) ?_ fun b γ2 hi => ?_
  ·refine exR (b1o rfl rfl rfl (v1v rfl (a0z rfl ?_ ?_)))<;>intro h<;>try simp at h
   ·refine b0o ?_
    repeat clear K' K
    exact ⟨_, (by (simp_all; done)), [], (x7x 46 rfl Cov.nil), (x7x 1 rfl (x7x 4 rfl Cov.nil)), HE.nil, (u9u 0 rfl HE.nil), rfl⟩
   refine a0t v4v (by rfl) (b1o rfl rfl rfl (v1v rfl ?_))
   exact ⟨_, (by (show (_ : Bool) = _; rw [Bool.eq_iff_iff]; simp; omega)), [], (x7x 46 rfl Cov.nil), (x7x 1 rfl (x7x 4 rfl Cov.nil)), HE.nil, (u9u 0 rfl HE.nil), rfl⟩
  ·try dsimp only [b1d, b1e]
   subst hi
   refine dc 0 (aI ?_ ?_)<;>intro h<;>try simp at h
   ·refine dv 3 ?_
    refine x0x rfl rfl rfl (a5q ..) (dc 1 (aS ?_ ?_))<;>intro h<;>try simp at h
    ·refine dv 15 ?_
     refine x2x rfl ?_ rfl
     exact congrArg (fun b : Bool => [AV.pv (.bool b)]) ((decide_eq_false (by simp only [b2u, a3s, b6i]; omega)).symm)
    refine dc 5 (aS ?_ ?_)<;>intro h<;>try simp at h
    ·refine dv 10 ?_
     refine x2x rfl ?_ rfl
     exact congrArg (fun b : Bool => [AV.pv (.bool b)]) ((decide_eq_false (by simp only [b2u, a3s, b6i]; omega)).symm)
    refine dc 5 (aS ?_ ?_)<;>intro h<;>try simp at h
    ·refine dv 5 ?_
     refine x2x rfl ?_ rfl
     exact congrArg (fun b : Bool => [AV.pv (.bool b)]) ((decide_eq_false (by simp only [b2u, a3s, b6i]; omega)).symm)
    refine dv 6 ?_
    refine x2x rfl ?_ rfl
    exact congrArg (fun b : Bool => [AV.pv (.bool b)]) (decide_eq_decide.2 (by simp only [b2u, a3s, b6i]; omega))
   refine dc 3 (aI ?_ ?_)<;>intro h<;>try simp at h
   ·refine dv 3 ?_
    refine x0x rfl rfl rfl (a5q ..) (dc 1 (aS ?_ ?_))<;>intro h<;>try simp at h
    ·refine dv 15 ?_
     refine x2x rfl ?_ rfl
     exact congrArg (fun b : Bool => [AV.pv (.bool b)]) ((decide_eq_false (by simp only [b2u, a3s, b6i]; omega)).symm)
    refine dv 2 ?_
    refine x0x rfl rfl rfl (a5p ..) (dc 2 (aS ?_ ?_))<;>intro h<;>try simp at h
    ·refine dv 10 ?_
     refine x2x rfl ?_ rfl
     exact congrArg (fun b : Bool => [AV.pv (.bool b)]) ((decide_eq_false (by simp only [b2u, a3s, b6i]; omega)).symm)
    refine dv 2 ?_
    refine x0x rfl rfl rfl (z1z ..) (dc 2 (aS ?_ ?_))<;>intro h<;>try simp at h
    ·refine dv 5 ?_
     refine x2x rfl ?_ rfl
     exact congrArg (fun b : Bool => [AV.pv (.bool b)]) ((decide_eq_false (by simp only [b2u, a3s, b6i]; omega)).symm)
    refine dv 6 ?_
    refine x2x rfl ?_ rfl
    exact congrArg (fun b : Bool => [AV.pv (.bool b)]) (decide_eq_decide.2 (by simp only [b2u, a3s, b6i]; omega))
   refine dc 3 (aS ?_ ?_)<;>intro h<;>try simp at h
   ·refine dv 4 ?_
    refine x2x rfl ?_ rfl
    exact congrArg (fun b : Bool => [AV.pv (.bool b)]) ((decide_eq_false (by simp only [b2u, a3s, b6i]; omega)).symm)
   refine dv 3 ?_
   refine x0x rfl rfl rfl (a4j ..) (dc 1 (aS ?_ ?_))<;>intro h<;>try simp at h
   ·refine dv 15 ?_
    refine x2x rfl ?_ rfl
    exact congrArg (fun b : Bool => [AV.pv (.bool b)]) ((decide_eq_false (by simp only [b2u, a3s, b6i]; omega)).symm)
   refine dv 2 ?_
   refine x0x rfl rfl rfl (z1z ..) (dc 2 (aS ?_ ?_))<;>intro h<;>try simp at h
   ·refine dv 10 ?_
    refine x2x rfl ?_ rfl
    exact congrArg (fun b : Bool => [AV.pv (.bool b)]) ((decide_eq_false (by simp only [b2u, a3s, b6i]; omega)).symm)
   refine dv 2 ?_
   refine x0x rfl rfl rfl (z1z ..) (dc 2 (aS ?_ ?_))<;>intro h<;>try simp at h
   ·refine dv 5 ?_
    refine x2x rfl ?_ rfl
    exact congrArg (fun b : Bool => [AV.pv (.bool b)]) ((decide_eq_false (by simp only [b2u, a3s, b6i]; omega)).symm)
   refine dv 2 ?_
   refine x0x rfl rfl rfl (a5q ..) (dv 3 ?_)
   refine x2x rfl ?_ rfl
   exact congrArg (fun b : Bool => [AV.pv (.bool b)]) (decide_eq_decide.2 (by simp only [b2u, a3s, b6i]; omega))
theorem b4y (c : Bool) (r : Ru) (hl : r.ops.length ≤ 1048576) : a0q Tryz.prog 203 [.agg (d0f c r)] (.pv (.bool (kb (d1a r)))) := by
 refine pX Tryz.f203 [.pv (.bool (kb (d1a r)))] 1 ?_
 refine dv 1 ?_
 refine y0y (id := 0) rfl rfl rfl (dv 9 fun K K' => ?_)
 refine x4x (ι := Nat) (fun i γ1 => [(3, pI (c8i (r.ops.take i) : Int)), (4, pI (d9m (r.ops.take i) : Int)), (5, pI (i : Int))]) (fun i γ1 => []) (fun i => i ≤ r.ops.length ∧ ∀ (j : Nat) o, j < i → r.ops[j]? = some o → b2u o) (fun i => r.ops.length - i) (x7x 1 rfl Cov.nil) (u9u 0 rfl HE.nil) 0 ⟨by omega, fun j o hj => by omega⟩ [] (Cov.cons' (t := 3) rfl (by rfl) (Cov.cons' (t := 4) rfl (by rfl) (x7x 5 rfl Cov.nil))) x5x rfl fun i γ1 hi => ?_
 obtain ⟨k1, k2⟩ := hi
 refine dc 7 (fun K K' => aS ?_ ?_)<;>intro h<;>try simp at h
 ·obtain rfl : i = r.ops.length := by omega
  rw [List.take_length]
  have hall : ∀ o ∈ r.ops, b2u o := fun o ho => by obtain ⟨j, hj⟩ := List.getElem?_of_mem ho; exact k2 j o (List.getElem?_eq_some_iff.1 hj).1 hj
  refine dc 7 (aS ?_ ?_)<;>intro h<;>try simp at h
  ·refine dv 8 ?_
   refine x2x rfl ?_ rfl
   exact congrArg (fun b : Bool => [AV.pv (.bool b)]) (a4g fun q => by have := q.2; omega)
  refine dc 4 (aS ?_ ?_)<;>intro h<;>try simp at h
  ·refine dv 4 ?_
   refine x2x rfl ?_ rfl
   exact congrArg (fun b : Bool => [AV.pv (.bool b)]) (a4g fun q => by have := q.2; omega)
  refine dv 5 ?_
  refine x2x rfl ?_ rfl
  exact congrArg (fun b : Bool => [AV.pv (.bool b)]) (e7j (by rw [decide_eq_true_iff]; exact ⟨fun q => ⟨hall, by omega, by omega, by omega⟩, fun q => by have := q.2; omega⟩))
 obtain ⟨o, ho⟩ := gE r.ops i
 have hs6 := d5g r.ops i
 have hs7 := d9n r.ops i
 refine dv 10 fun K K' K K' => ?_
 refine x0x rfl rfl rfl (d0m ..) (dc 1 (aI ?_ ?_))<;>intro hc6<;>try simp at hc6
 ·have fX : ¬ d1a r := fun q => by have := q.1 o (List.mem_of_getElem? ho); simp_all
  refine dv 3 ?_
  refine x2x rfl ?_ rfl
  exact congrArg (fun b : Bool => [AV.pv (.bool b)]) (a4g fX)
 have hoo : b2u o := by simpa using hc6
 refine dc 10 (fun K K' => aS ?_ ?_)<;>intro hc8<;>try simp at hc8
 ·have h6 : ¬ o.do' = 6 := hc8
  refine dc 9 (aS ?_ ?_)<;>intro hc10<;>try simp at hc10
  ·have h7 : ¬ o.do' = 7 := hc10
   refine dv 3 ?_
   refine x8x (b := 1) rfl rfl (by omega) (dv 1 ?_)
   exact ⟨i + 1, ⟨⟨by omega, fun j q hj hq => by by_cases e : j = i; (subst e; rw [ho] at hq; cases hq; exact hoo); exact k2 j q (by omega) hq⟩, by omega⟩, [], (Cov.cons' (t := 3) rfl (by rw [z6z ho, b2v]; (rw [if_neg h6]; rfl)) (Cov.cons' (t := 4) rfl (by rw [z6z ho, b5s]; (rw [if_neg h7]; rfl)) (x7x 5 rfl Cov.nil))), x6x, x5x, x5x, rfl⟩
  have h7 : o.do' = 7 := hc10
  refine dv 2 ?_
  refine x8x (b := 1) rfl rfl (by omega) (dv 3 ?_)
  refine x8x (b := 1) rfl rfl (by omega) (dv 1 ?_)
  exact ⟨i + 1, ⟨⟨by omega, fun j q hj hq => by by_cases e : j = i; (subst e; rw [ho] at hq; cases hq; exact hoo); exact k2 j q (by omega) hq⟩, by omega⟩, [], (Cov.cons' (t := 3) rfl (by rw [z6z ho, b2v]; (rw [if_neg h6]; rfl)) (Cov.cons' (t := 4) rfl (by rw [z6z ho, b5s]; (rw [if_pos h7]; done)) (x7x 5 rfl Cov.nil))), x6x, x5x, x5x, rfl⟩
 have h6 : o.do' = 6 := hc8
 refine dv 2 ?_
 refine x8x (b := 1) rfl rfl (by omega) (dc 9 (aS ?_ ?_))<;>intro hc9<;>try simp at hc9
 ·have h7 : ¬ o.do' = 7 := hc9
  refine dv 3 ?_
  refine x8x (b := 1) rfl rfl (by omega) (dv 1 ?_)
  exact ⟨i + 1, ⟨⟨by omega, fun j q hj hq => by by_cases e : j = i; (subst e; rw [ho] at hq; cases hq; exact hoo); exact k2 j q (by omega) hq⟩, by omega⟩, [], (Cov.cons' (t := 3) rfl (by rw [z6z ho, b2v]; (rw [if_pos h6]; done)) (Cov.cons' (t := 4) rfl (by rw [z6z ho, b5s]; (rw [if_neg h7]; rfl)) (x7x 5 rfl Cov.nil))), x6x, x5x, x5x, rfl⟩
 have h7 : o.do' = 7 := hc9
 refine dv 2 ?_
 refine x8x (b := 1) rfl rfl (by omega) (dv 3 ?_)
 refine x8x (b := 1) rfl rfl (by omega) (dv 1 ?_)
 exact ⟨i + 1, ⟨⟨by omega, fun j q hj hq => by by_cases e : j = i; (subst e; rw [ho] at hq; cases hq; exact hoo); exact k2 j q (by omega) hq⟩, by omega⟩, [], (Cov.cons' (t := 3) rfl (by rw [z6z ho, b2v]; (rw [if_pos h6]; done)) (Cov.cons' (t := 4) rfl (by rw [z6z ho, b5s]; (rw [if_pos h7]; done)) (x7x 5 rfl Cov.nil))), x6x, x5x, x5x, rfl⟩
theorem b0i (c : Bool) (l : List Ap) (hb : ∀ a ∈ l, ∀ r ∈ a.rules, r.ops.length ≤ 1048576) : a0q Tryz.prog 87 [a5t c l] (.pv (.bool (kb (a7m l)))) := by
 refine pX Tryz.f87 [.pv (.bool (kb (a7m l)))] 0 ?_
 refine dc 7 (fun K K' => aI ?_ ?_)<;>intro h<;>try simp at h
 ·have fX : ¬ a7m l := fun q => by have := q.1; omega
  refine dv 3 ?_
  refine x2x rfl ?_ rfl
  exact congrArg (fun b : Bool => [AV.pv (.bool b)]) (a4g fX)
 have h4 : l.length = 4 := by omega
 refine dv 5 fun K K' => ?_
 refine x4x (ι := Nat) (fun i γ1 => [(3, pI (i : Int))]) (fun i γ1 => []) (fun i => i ≤ l.length ∧ ∀ (j : Nat) a, j < i → l[j]? = some a → e4i a) (fun i => l.length - i) (x7x 0 rfl Cov.nil) HE.nil 0 ⟨by omega, fun j a hj => by omega⟩ [] x6x x5x rfl fun i γ1 hi => ?_
 obtain ⟨k1, k2⟩ := hi
 refine dc 6 (fun K K' => aS ?_ ?_)<;>intro h<;>try simp at h
 ·obtain rfl : i = l.length := by omega
  have hT : a7m l := ⟨h4, fun a ha => by obtain ⟨j, hj⟩ := List.getElem?_of_mem ha; exact k2 j a (List.getElem?_eq_some_iff.1 hj).1 hj⟩
  refine dv 4 ?_
  refine x2x rfl ?_ rfl
  exact congrArg (fun b : Bool => [AV.pv (.bool b)]) (e5z hT)
 obtain ⟨a, ha⟩ := gE l i
 refine dc 15 (fun K K' K K' => aI ?_ ?_)<;>intro h<;>try simp at h
 ·have fX : ¬ a7m l := fun q => by have := (q.2 a (List.mem_of_getElem? ha)).1; omega
  refine dv 3 ?_
  refine x2x rfl ?_ rfl
  exact congrArg (fun b : Bool => [AV.pv (.bool b)]) (a4g fX)
 have h5 : a.rules.length ≤ 4 := by omega
 refine dv 4 ?_
 refine x4x (ι := Nat) (fun k γ2 => [(5, pI (k : Int))]) (fun k γ2 => []) (fun k => k ≤ a.rules.length ∧ c9q a.rules (fun j r => (0 ≤ r.kind ∧ r.kind ≤ 3) ∧ d1a r ∧ ∀ p, 0 < j → a.rules[j - 1]? = some p → p.kind < r.kind) k) (fun k => a.rules.length - k) (q8q [0, 3, 4] rfl) HE.nil 0 ⟨by omega, a1p⟩ [] x6x x5x rfl fun k γ2 hi => ?_
 obtain ⟨k3, k4⟩ := hi
 refine dc 6 (fun K K' => aS ?_ ?_)<;>intro h<;>try simp at h
 ·obtain rfl : k = a.rules.length := by omega
  have hap : e4i a := ⟨h5, fun j r hj => a3c k4 (Nat.le_refl _) j r hj⟩
  refine dv 3 ?_
  refine x8x (b := 1) rfl rfl (by omega) (dv 1 ?_)
  exact ⟨i + 1, ⟨⟨by omega, fun j q hj hq => by by_cases e : j = i; (subst e; rw [ha] at hq; cases hq; exact hap); exact k2 j q (by omega) hq⟩, by omega⟩, [], x6x, x6x, x5x, x5x, rfl⟩
 obtain ⟨r, hr⟩ := gE a.rules k
 refine dv 9 fun K K' => ?_
 refine x0x rfl rfl rfl (z1z ..) (dc 2 (aS ?_ ?_))<;>intro h<;>try simp at h
 ·have fR : ¬ ((0 ≤ r.kind ∧ r.kind ≤ 3) ∧ d1a r ∧ ∀ p, 0 < k → a.rules[k - 1]? = some p → p.kind < r.kind) := by (rintro ⟨q1, q2, q3⟩; omega)
  refine dv 25 ?_
  have fX : ¬ a7m l := fun q => fR ((q.2 a (List.mem_of_getElem? ha)).2 k r hr)
  refine dv 3 ?_
  refine x2x rfl ?_ rfl
  exact congrArg (fun b : Bool => [AV.pv (.bool b)]) (a4g fX)
 refine dv 4 ?_
 refine x0x rfl rfl rfl (b4y c r (hb a (List.mem_of_getElem? ha) r (List.mem_of_getElem? hr))) ?_
 refine dc 3 (aS ?_ ?_)<;>intro hg13<;>try simp at hg13
 ·have hnr : ¬ d1a r := a1o (by simpa using hg13)
  have fR : ¬ ((0 ≤ r.kind ∧ r.kind ≤ 3) ∧ d1a r ∧ ∀ p, 0 < k → a.rules[k - 1]? = some p → p.kind < r.kind) := by (rintro ⟨q1, q2, q3⟩; exact absurd q2 hnr)
  refine dv 17 ?_
  have fX : ¬ a7m l := fun q => fR ((q.2 a (List.mem_of_getElem? ha)).2 k r hr)
  refine dv 3 ?_
  refine x2x rfl ?_ rfl
  exact congrArg (fun b : Bool => [AV.pv (.bool b)]) (a4g fX)
 have hru : d1a r := a1e.1 (by simpa using hg13)
 refine dc 3 (aS ?_ ?_)<;>intro h<;>try simp at h
 ·have hR : ((0 ≤ r.kind ∧ r.kind ≤ 3) ∧ d1a r ∧ ∀ p, 0 < k → a.rules[k - 1]? = some p → p.kind < r.kind) := ⟨by omega, hru, fun p h0 => by omega⟩
  refine dv 17 ?_
  refine x8x (b := 1) rfl rfl (by omega) (dv 1 ?_)
  exact ⟨k + 1, ⟨⟨by omega, s6s k4 hr hR⟩, by omega⟩, [], x6x, x6x, x5x, x5x, rfl⟩
 have k0 : 0 < k := by omega
 obtain ⟨p, hp⟩ := gE a.rules (k - 1)
 refine dv 2 ?_
 refine p5p (b := 1) rfl rfl (by omega) (by omega) (dc 11 (aS ?_ ?_))<;>intro h<;>try simp at h
 ·have hR : ((0 ≤ r.kind ∧ r.kind ≤ 3) ∧ d1a r ∧ ∀ p, 0 < k → a.rules[k - 1]? = some p → p.kind < r.kind) := by exact ⟨by omega, hru, fun p2 h0 hp2 => by rw [hp] at hp2; cases hp2; omega⟩
  refine dv 3 ?_
  refine x8x (b := 1) rfl rfl (by omega) (dv 1 ?_)
  exact ⟨k + 1, ⟨⟨by omega, s6s k4 hr hR⟩, by omega⟩, [], x6x, x6x, x5x, x5x, rfl⟩
 have fR : ¬ ((0 ≤ r.kind ∧ r.kind ≤ 3) ∧ d1a r ∧ ∀ p, 0 < k → a.rules[k - 1]? = some p → p.kind < r.kind) := by (rintro ⟨q1, q2, q3⟩; (have := q3 p (by omega) hp; omega))
 have fX : ¬ a7m l := fun q => fR ((q.2 a (List.mem_of_getElem? ha)).2 k r hr)
 refine dv 3 ?_
 refine x2x rfl ?_ rfl
 exact congrArg (fun b : Bool => [AV.pv (.bool b)]) (a4g fX)
end
section
theorem a1y (S : Rn) (e : Ev) (r : Int) : Meth Tryz.prog 338 3 [0, 1, 2] [.ptr 0 0 0, .pv (.int .i64 r)] [(0, (0, .box 362 [pI S.s.x, pI S.s.y, pI S.s.count, pI e.time, pI e.to, pI e.from', pI e.count, pI e.n, pI e.kind, pI e.arg, .ref 1 0, .ref 2 0])), (1, (0, .row 56 7 ((S.sends).map y9y))), (2, (0, .row 141 5 ((S.outs).map q5q)))] (.pv (.int .i64 (if r = 0 then S.s.x else S.s.y))) [] := by
 refine mX Tryz.f338 [.pv (.int .i64 (if r = 0 then S.s.x else S.s.y))] 3 0 fun γ => ?_
 refine dc 6 (fun K K' => aI ?_ ?_)<;>intro hc2<;>try simp at hc2
 ·have k : r = 0 := hc2
  refine dv 8 ?_
  exact ⟨[γ 0, γ 1, γ 2], rfl, congrArg (fun v : Int => some [AV.pv (.int .i64 v)]) (if_pos k).symm, x5x⟩
 have k : ¬ r = 0 := hc2
 refine dv 9 ?_
 exact ⟨[γ 0, γ 1, γ 2], rfl, congrArg (fun v : Int => some [AV.pv (.int .i64 v)]) (if_neg k).symm, x5x⟩
theorem a5g (S : Rn) (e : Ev) (r n : Int) : Meth Tryz.prog 337 3 [0, 1, 2] [.ptr 0 0 0, .pv (.int .i64 r), .pv (.int .i64 n)] [(0, (0, .box 362 [pI S.s.x, pI S.s.y, pI S.s.count, pI e.time, pI e.to, pI e.from', pI e.count, pI e.n, pI e.kind, pI e.arg, .ref 1 0, .ref 2 0])), (1, (0, .row 56 7 ((S.sends).map y9y))), (2, (0, .row 141 5 ((S.outs).map q5q)))] (.tup []) [(0, (0, .box 362 [pI (f6l S.s r n).x, pI (f6l S.s r n).y, pI (f6l S.s r n).count, pI e.time, pI e.to, pI e.from', pI e.count, pI e.n, pI e.kind, pI e.arg, .ref 1 0, .ref 2 0]))] := by
 refine mX Tryz.f337 [] 3 0 fun γ => ?_
 refine dc 3 (aI ?_ ?_)<;>intro hc1<;>try simp at hc1
 ·have k : r = 0 := hc1
  refine dv 3 ?_
  refine z8z rfl rfl rfl (dv 4 ?_)
  exact ⟨[γ 0, γ 1, γ 2], rfl, rfl, HE.box rfl (by unfold f6l; rw [if_pos k]; rfl) (HE.same rfl (HE.same rfl HE.nil))⟩
 have k : ¬ r = 0 := hc1
 refine dv 3 ?_
 refine z8z rfl rfl rfl (dv 4 ?_)
 exact ⟨[γ 0, γ 1, γ 2], rfl, rfl, HE.box rfl (by unfold f6l; rw [if_neg k]; rfl) (HE.same rfl (HE.same rfl HE.nil))⟩
theorem c5k (S : Rn) (e : Ev) (o : Op_) (ho : b2u o) (hs : S.sends.length ≤ 1000) (hu : S.outs.length ≤ 1000) : MethE Tryz.prog 336 3 [.ptr 0 0 0, .agg (b4q o)] [(0, (0, .box 362 [pI S.s.x, pI S.s.y, pI S.s.count, pI e.time, pI e.to, pI e.from', pI e.count, pI e.n, pI e.kind, pI e.arg, .ref 1 0, .ref 2 0])), (1, (0, .row 56 7 ((S.sends).map y9y))), (2, (0, .row 141 5 ((S.outs).map q5q)))] (ι := Rn × Int) (fun S' => S'.1.sends.length ≤ S.sends.length + 1 ∧ S'.1.outs.length ≤ S.outs.length + 1 ∧ (∀ q ∈ S'.1.outs, q ∈ S.outs ∨ q.time = e.time) ∧ 0 ≤ S'.2 ∧ S'.2 ≤ 8) (fun S' => [0]) (fun S' => .pv (.int .i64 S'.2)) (fun S' => [(0, (0, .box 362 [pI S'.1.s.x, pI S'.1.s.y, pI S'.1.s.count, pI e.time, pI e.to, pI e.from', pI e.count, pI e.n, pI e.kind, pI e.arg, .ref 1 0, .ref 2 0])), (1, (0, .row 56 7 ((S'.1.sends).map y9y))), (2, (0, .row 141 5 ((S'.1.outs).map q5q)))]) := by
 refine b7c v4v (fn := Tryz.f336) (by kernel_rfl) (by kernel_rfl) rfl (ι := Rn × Int) (OF := fun S' => [.pv (.int .i64 S'.2)]) 3 5 (s0s rfl) (by rfl) (fun _ _ => by rfl) (by repeat (first | exact BndH.nil | refine BndH.box rfl ?_ | refine BndH.row (w1w fun _ => rfl) ?_)) (fun _ _ => (by repeat (first | exact BndH.nil | refine BndH.box rfl ?_ | refine BndH.row (w1w fun _ => rfl) ?_))) (fun _ _ => by rfl) fun γ => ?_
 show Ex Tryz.prog _ _ [(0, .ptr 0 (γ 0) 0), (1, .agg (b4q o))] [(0, ((γ 0), .box 362 [pI S.s.x, pI S.s.y, pI S.s.count, pI e.time, pI e.to, pI e.from', pI e.count, pI e.n, pI e.kind, pI e.arg, .ref 1 (γ 1), .ref 2 (γ 2)])), (1, ((γ 1), .row 56 7 ((S.sends).map y9y))), (2, ((γ 2), .row 141 5 ((S.outs).map q5q))), (7, (0, .dead)), (6, (0, .dead)), (5, (0, .dead)), (4, (0, .dead)), (3, (0, .dead))] _
 refine dv 1 ?_
 refine y0y (id := 3) rfl rfl rfl (v1v rfl (a1s fun K K' => ?_))
 refine exR (u8u rfl a1v rfl rfl s3s rfl rfl (y7y rfl s3s rfl rfl (a5d (exR (b1o rfl rfl rfl (v1v rfl (a0z rfl ?_ ?_)))))))<;>intro u<;>try simp at u
 ·refine exG (z5z rfl (u8u rfl a1v rfl rfl s3s rfl rfl (y7y rfl s3s rfl rfl (u8u rfl a1v rfl rfl s3s rfl rfl (y7y rfl s3s rfl rfl ?_)))))
  refine rlM [0, 1, 2] [_, _, _] (a5g S e (o.a) (o.b)) rfl rfl rfl ?_
  refine hkL (by assumption) ?_
  refine exR (v1v rfl (a8x ?_))
  exact ⟨.inr rfl, (⟨⟨_, _, _⟩, S.sends, S.outs⟩, 0), ⟨by exact Nat.le_succ _, by exact Nat.le_succ _, by exact (fun q h => .inl h), by show (0 : Int) ≤ 0; omega, by show (0 : Int) ≤ 8; omega⟩, [γ 0, _, _], rfl, rfl, HE.box rfl rfl (HE.row rfl rfl (HE.row rfl rfl HE.nil))⟩
 refine dc 3 (aI ?_ ?_)<;>intro u<;>try simp at u
 ·refine exH (z5z rfl (u8u rfl a1v rfl rfl s3s rfl rfl (y7y rfl s3s rfl rfl (z5z rfl (u8u rfl a1v rfl rfl s3s rfl rfl (y7y rfl s3s rfl rfl ?_))))))
  refine rlM [0, 1, 2] [_, _, _] (a1y S e (o.a)) rfl rfl rfl ?_
  refine z5z rfl (u8u rfl a1v rfl rfl s3s rfl rfl (y7y rfl s3s rfl rfl ?_))
  refine rlM [0, 1, 2] [_, _, _] (a1y S e (o.b)) rfl rfl rfl ?_
  refine z8z rfl rfl rfl ?_
  refine rlM [0, 1, 2] [_, _, _] (a5g S e (o.a) (IntKind.i64.wrap ((if o.a = 0 then S.s.x else S.s.y) + (if o.b = 0 then S.s.x else S.s.y)))) rfl rfl rfl ?_
  refine ⟨by kernel_rfl, hkL (by assumption) ?_⟩
  refine exR (v1v rfl (a8x ?_))
  exact ⟨.inr rfl, (⟨⟨_, _, _⟩, S.sends, S.outs⟩, 0), ⟨by exact Nat.le_succ _, by exact Nat.le_succ _, by exact (fun q h => .inl h), by show (0 : Int) ≤ 0; omega, by show (0 : Int) ≤ 8; omega⟩, [γ 0, _, _], rfl, rfl, HE.box rfl rfl (HE.row rfl rfl (HE.row rfl rfl HE.nil))⟩
 refine exR (b1o rfl rfl rfl (v1v rfl (a0z rfl ?_ ?_)))<;>intro u<;>try simp at u
 ·refine exH (z5z rfl (u8u rfl a1v rfl rfl s3s rfl rfl (y7y rfl s3s rfl rfl (z5z rfl (u8u rfl a1v rfl rfl s3s rfl rfl (y7y rfl s3s rfl rfl ?_))))))
  refine rlM [0, 1, 2] [_, _, _] (a1y S e (o.a)) rfl rfl rfl ?_
  refine u8u rfl a1v rfl rfl s3s rfl rfl (y7y rfl s3s rfl rfl (z8z rfl rfl rfl ?_))
  refine rlM [0, 1, 2] [_, _, _] (a5g S e (o.a) (IntKind.i64.wrap ((if o.a = 0 then S.s.x else S.s.y) + o.b))) rfl rfl rfl ?_
  refine ⟨by kernel_rfl, hkL (by assumption) ?_⟩
  refine exR (v1v rfl (a8x ?_))
  exact ⟨.inr rfl, (⟨⟨_, _, _⟩, S.sends, S.outs⟩, 0), ⟨by exact Nat.le_succ _, by exact Nat.le_succ _, by exact (fun q h => .inl h), by show (0 : Int) ≤ 0; omega, by show (0 : Int) ≤ 8; omega⟩, [γ 0, _, _], rfl, rfl, HE.box rfl rfl (HE.row rfl rfl (HE.row rfl rfl HE.nil))⟩
 refine dc 3 (aI ?_ ?_)<;>intro u<;>try simp at u
 ·refine exH (z5z rfl (u8u rfl a1v rfl rfl s3s rfl rfl (y7y rfl s3s rfl rfl (z5z rfl (b1l rfl rfl (u8u rfl e9o rfl rfl z2z rfl rfl (u8u rfl z2z rfl rfl s3s rfl rfl (y7y rfl s3s rfl rfl ?_))))))))
  refine rlM [0, 1, 2] [_, _, _] (a5g S e (o.a) (e.arg)) rfl rfl rfl ?_
  refine ⟨by kernel_rfl, hkL (by assumption) ?_⟩
  refine exR (v1v rfl (a8x ?_))
  exact ⟨.inr rfl, (⟨⟨_, _, _⟩, S.sends, S.outs⟩, 0), ⟨by exact Nat.le_succ _, by exact Nat.le_succ _, by exact (fun q h => .inl h), by show (0 : Int) ≤ 0; omega, by show (0 : Int) ≤ 8; omega⟩, [γ 0, _, _], rfl, rfl, HE.box rfl rfl (HE.row rfl rfl (HE.row rfl rfl HE.nil))⟩
 refine dc 3 (aI ?_ ?_)<;>intro hc6<;>try simp at hc6
 ·have k5 : o.do' = 5 := hc6
  have hoc : 1 ≤ o.c ∧ o.c ≤ 8 := by unfold b2u at ho; omega
  refine dv 4 ?_
  refine rlM [0, 1, 2] [_, _, _] (a1y S e (o.a)) rfl rfl rfl ?_
  refine dc 3 (aI ?_ ?_)<;>intro u<;>try simp at u
  ·refine dv 5 ?_
   exact ⟨(⟨⟨_, _, _⟩, S.sends, S.outs⟩, o.c), ⟨by exact Nat.le_succ _, by exact Nat.le_succ _, by exact (fun q h => .inl h), by show (0 : Int) ≤ o.c; omega, by show (o.c : Int) ≤ 8; omega⟩, [γ 0, _, _], rfl, rfl, x5x⟩
  refine dv 4 ?_
  exact ⟨(⟨⟨_, _, _⟩, S.sends, S.outs⟩, 0), ⟨by exact Nat.le_succ _, by exact Nat.le_succ _, by exact (fun q h => .inl h), by show (0 : Int) ≤ 0; omega, by show (0 : Int) ≤ 8; omega⟩, [γ 0, _, _], rfl, rfl, x5x⟩
 refine dc 3 (aS ?_ ?_)<;>intro u<;>try simp at u
 ·refine dc 3 (aS ?_ ?_)<;>intro u<;>try simp at u
  ·refine dv 4 ?_
   exact ⟨(⟨⟨_, _, _⟩, S.sends, S.outs⟩, 0), ⟨by exact Nat.le_succ _, by exact Nat.le_succ _, by exact (fun q h => .inl h), by show (0 : Int) ≤ 0; omega, by show (0 : Int) ≤ 8; omega⟩, [γ 0, _, _], rfl, rfl, x5x⟩
  refine dv 25 ?_
  refine a3w (n := S.outs.length) rfl a0x rfl rfl (List.length_map _) ?_
  refine dv 3 ?_
  refine rlM [0, 1, 2] [_, _, _] (a1y S e (o.a)) rfl rfl rfl ?_
  refine rlB w9w c7r ?_
  refine y3y (id := 6) a0x rfl w9w rfl rfl rfl rfl rfl rfl ?_
  refine y6y (zs := (S.outs ++ [(Ou.mk e.time e.to S.s.count (S.outs.length : Int) (if o.a = 0 then S.s.x else S.s.y))]).map q5q) rfl rfl a0x rfl w9w rfl rfl rfl rfl (by rfl) (z7z q5q S.outs (Ou.mk e.time e.to S.s.count (S.outs.length : Int) (if o.a = 0 then S.s.x else S.s.y))) (by (simp only [a0e, r7r, a0c, a0d, a0r, a2y, T141]; omega)) ?_
  refine dv 6 ?_
  exact ⟨(⟨⟨_, _, _⟩, S.sends, S.outs ++ [(Ou.mk e.time e.to S.s.count (S.outs.length : Int) (if o.a = 0 then S.s.x else S.s.y))]⟩, 0), ⟨by exact Nat.le_succ _, by simp, by exact (fun q h => by rcases List.mem_append.1 h with h | h; exact .inl h; exact .inr (by rw [List.mem_singleton.1 h])), by show (0 : Int) ≤ 0; omega, by show (0 : Int) ≤ 8; omega⟩, [γ 0, _, _], rfl, rfl, x5x⟩
 refine dv 8 ?_
 refine z8z rfl rfl rfl (dc 1 (aS ?_ ?_))<;>intro u<;>try simp at u
 ·refine dv 4 ?_
  exact ⟨(⟨⟨_, _, _⟩, S.sends, S.outs⟩, 0), ⟨by exact Nat.le_succ _, by exact Nat.le_succ _, by exact (fun q h => .inl h), by show (0 : Int) ≤ 0; omega, by show (0 : Int) ≤ 8; omega⟩, [γ 0, _, _], rfl, rfl, x5x⟩
 refine dv 13 ?_
 refine z8z rfl rfl rfl (dv 16 ?_)
 refine a3w (n := S.sends.length) rfl u4u rfl rfl (List.length_map _) ?_
 refine dv 5 ?_
 refine rlM [0, 1, 2] [_, _, _] (a1y S e (o.d)) rfl rfl rfl ?_
 refine rlB z2z a7v ?_
 refine y3y (id := 4) u4u rfl z2z rfl rfl rfl rfl rfl rfl ?_
 refine y6y (zs := (S.sends ++ [(Ev.mk (IntKind.i64.wrap (e.time + o.c)) o.a e.to S.s.count (S.sends.length : Int) o.b (if o.d = 0 then S.s.x else S.s.y))]).map y9y) rfl rfl u4u rfl z2z rfl rfl rfl rfl (by rfl) (z7z y9y S.sends (Ev.mk (IntKind.i64.wrap (e.time + o.c)) o.a e.to S.s.count (S.sends.length : Int) o.b (if o.d = 0 then S.s.x else S.s.y))) (by (simp only [a0e, r7r, a0c, a0d, a0r, a2y, T56]; omega)) ?_
 refine dv 6 ?_
 exact ⟨(⟨⟨_, _, _⟩, S.sends ++ [(Ev.mk (IntKind.i64.wrap (e.time + o.c)) o.a e.to S.s.count (S.sends.length : Int) o.b (if o.d = 0 then S.s.x else S.s.y))], S.outs⟩, 0), ⟨by simp, by exact Nat.le_succ _, by exact (fun q h => .inl h), by show (0 : Int) ≤ 0; omega, by show (0 : Int) ≤ 8; omega⟩, [γ 0, _, _], rfl, rfl, x5x⟩
theorem d0n (a : Ap) (s : St) (e : Ev) (hb : ∀ r ∈ a.rules, r.ops.length ≤ 1048576) : MethE Tryz.prog 335 0 [.agg (b9m true a), .agg (s1s s), .agg (y9y e)] [] (ι := Rn) (fun S' => S'.sends.length ≤ 32 ∧ S'.outs.length ≤ 32 ∧ ∀ q ∈ S'.outs, q.time = e.time) (fun S' => []) (fun S' => .tup [.agg (s1s S'.s), q2q true S'.sends, r0r true S'.outs]) (fun S' => []) := by
 refine mE (ι := Rn) Tryz.f335 (fun S' => [.agg (s1s S'.s), q2q true S'.sends, r0r true S'.outs]) 0 12 fun γ => ?_
 refine dv 1 ?_
 refine y0y (id := 0) rfl rfl rfl (y0y (id := 1) rfl rfl rfl (y0y (id := 2) rfl rfl rfl (x3x (id := 3) a5r d1m rfl (dv 5 fun K K' => ?_))))
 refine rlB a5y b6a ?_
 refine rlB a5y b6a ?_
 refine rlB a5y b6a ?_
 refine s9s (id := 4) c8u rfl a5y rfl rfl rfl rfl (.val rfl rfl (.val rfl rfl (.val rfl rfl (.val rfl rfl .nil)))) rfl (s0s rfl) (s0s rfl) (s0s rfl) rfl rfl ?_
 refine b4a rfl rfl rfl (.ref rfl (e5i a) .nil) (b0i false (f3z a) (by intro x hx; simp only [f3z, List.mem_cons, List.not_mem_nil, or_false] at hx; rcases hx with rfl | rfl | rfl | rfl <;> first | exact hb | (intro r hr; cases hr))) (.pv _) ?_
 refine dc 2 (aS ?_ ?_)<;>intro hg2<;>try simp at hg2
 ·refine dv 10 ?_
  refine rlB a5r d1m ?_
  refine y1y (id := 5) u4u rfl z2z rfl (y1y (id := 6) a0x rfl w9w rfl (dv 3 ?_))
  refine p8p (f := y9y) (l := []) 7 rfl rfl (fun _ => rfl) ?_
  refine p8p (f := q5q) (l := []) 8 rfl rfl (fun _ => rfl) ?_
  refine dv 1 ?_
  exact ⟨⟨⟨0, 0, 0⟩, [], []⟩, ⟨Nat.zero_le _, Nat.zero_le _, fun q h => by cases h⟩, [], rfl, rfl, x5x⟩
 have fA : e4i a := f3p (a1e.1 (by simpa using hg2))
 refine dv 1 ?_
 refine x0x rfl rfl rfl (a7z ..) (dc 3 (aS ?_ ?_))<;>intro u<;>try simp at u
 ·refine dv 5 ?_
  refine rlB a5r d1m ?_
  refine y1y (id := 5) u4u rfl z2z rfl (y1y (id := 6) a0x rfl w9w rfl (dv 3 ?_))
  refine p8p (f := y9y) (l := []) 7 rfl rfl (fun _ => rfl) ?_
  refine p8p (f := q5q) (l := []) 8 rfl rfl (fun _ => rfl) ?_
  refine dv 1 ?_
  exact ⟨⟨⟨0, 0, 0⟩, [], []⟩, ⟨Nat.zero_le _, Nat.zero_le _, fun q h => by cases h⟩, [], rfl, rfl, x5x⟩
 refine dv 1 ?_
 refine x0x rfl rfl rfl (a8b ..) (dc 2 (aI ?_ ?_))<;>intro u<;>try simp at u
 ·refine dv 1 ?_
  refine rlB a5r d1m ?_
  refine y1y (id := 5) u4u rfl z2z rfl (y1y (id := 6) a0x rfl w9w rfl (dv 3 ?_))
  refine p8p (f := y9y) (l := []) 7 rfl rfl (fun _ => rfl) ?_
  refine p8p (f := q5q) (l := []) 8 rfl rfl (fun _ => rfl) ?_
  refine dv 1 ?_
  exact ⟨⟨⟨0, 0, 0⟩, [], []⟩, ⟨Nat.zero_le _, Nat.zero_le _, fun q h => by cases h⟩, [], rfl, rfl, x5x⟩
 refine dc 6 (fun K K' => aI ?_ ?_)<;>intro u<;>try simp at u
 ·refine dv 2 ?_
  refine y1y (id := 7) u4u rfl z2z rfl (y1y (id := 8) a0x rfl w9w rfl (dv 3 ?_))
  refine p8p (f := y9y) (l := []) 7 rfl rfl (fun _ => rfl) ?_
  refine p8p (f := q5q) (l := []) 8 rfl rfl (fun _ => rfl) ?_
  refine dv 1 ?_
  exact ⟨⟨s, [], []⟩, ⟨Nat.zero_le _, Nat.zero_le _, fun q h => by cases h⟩, [], rfl, rfl, x5x⟩
 refine dv 4 ?_
 refine y1y (id := 9) u4u rfl z2z rfl (y1y (id := 10) a0x rfl w9w rfl (rlB e9o f4s ?_))
 refine y0y (id := 11) rfl rfl rfl (dv 5 fun K K' => ?_)
 refine x4x (ι := Rn × Nat) (fun p γ1 => [(10, pI (p.2 : Int))]) (fun p γ1 => [(9, ((γ1 9), .row 56 7 ((p.1.sends).map y9y))), (10, ((γ1 10), .row 141 5 ((p.1.outs).map q5q))), (11, ((0 + 1), .box 362 [pI p.1.s.x, pI p.1.s.y, pI p.1.s.count, pI e.time, pI e.to, pI e.from', pI e.count, pI e.n, pI e.kind, pI e.arg, .ref 9 (γ1 9), .ref 10 (γ1 10)]))]) (fun p => p.2 ≤ a.rules.length ∧ p.1.sends.length ≤ 8 * p.2 ∧ p.1.outs.length ≤ 8 * p.2 ∧ ∀ q ∈ p.1.outs, q.time = e.time) (fun p => a.rules.length - p.2) (q8q [3, 5, 6, 9] rfl) (a0o [0, 1, 2, 3, 4, 5, 6, 7, 8] rfl) (⟨s, [], []⟩, 0) ⟨Nat.zero_le _, Nat.zero_le _, Nat.zero_le _, fun q h => by cases h⟩ [0, 0, 0, 0, 0, 0, 0, 0, 0, _, _] x6x (HE.row rfl (by rfl) (HE.row rfl (by rfl) (HE.box rfl (by rfl) HE.nil))) rfl fun p γ1 hi => ?_
 obtain ⟨S, i⟩ := p
 obtain ⟨h1, h2, h3, h4⟩ := hi
 dsimp only at h1 h2 h3 h4 ⊢
 refine dc 7 (fun K K' => aS ?_ ?_)<;>intro u<;>try simp at u
 ·have ha4 := fA.1
  refine dv 8 ?_
  refine z8z rfl rfl rfl (dv 20 ?_)
  refine p8p 7 rfl rfl (fun _ => rfl) ?_
  refine p8p 8 rfl rfl (fun _ => rfl) ?_
  refine dv 1 ?_
  exact ⟨⟨⟨S.s.x, S.s.y, IntKind.i64.wrap (S.s.count + 1)⟩, S.sends, S.outs⟩, ⟨by show S.sends.length ≤ 32; omega, by show S.outs.length ≤ 32; omega, by exact h4⟩, [], rfl, rfl, x5x⟩
 obtain ⟨r, hr⟩ := gE a.rules i
 have hro := fA.2 i r hr
 have hr8 := hro.2.1.2.1
 have ha4 := fA.1
 refine dc 14 (fun K K' K K' => aI ?_ ?_)<;>intro u<;>try simp at u
 ·refine dv 3 ?_
  refine x8x (b := 1) rfl rfl (by omega) (dv 1 ?_)
  exact ⟨(S, i + 1), ⟨(by exact ⟨by show i + 1 ≤ _; omega, by show S.sends.length ≤ 8 * (i + 1); omega, by show S.outs.length ≤ 8 * (i + 1); omega, h4⟩), (by show a.rules.length - (i + 1) < a.rules.length - i; omega)⟩, [0, 0, 0, 0, 0, 0, 0, 0, 0, _, _], x6x, x6x, x5x, x5x, rfl⟩
 refine dv 12 ?_
 refine x4x (ι := Rn × Nat × Nat) (fun p γ2 => [(12, pI (p.2.1 : Int))]) (fun p γ2 => [(9, ((γ2 9), .row 56 7 ((p.1.sends).map y9y))), (10, ((γ2 10), .row 141 5 ((p.1.outs).map q5q))), (11, ((0 + 1), .box 362 [pI p.1.s.x, pI p.1.s.y, pI p.1.s.count, pI e.time, pI e.to, pI e.from', pI e.count, pI e.n, pI e.kind, pI e.arg, .ref 9 (γ2 9), .ref 10 (γ2 10)]))]) (fun p => p.2.1 ≤ 20 ∧ p.2.2 ≤ p.2.1 ∧ p.2.2 ≤ 8 ∧ p.1.sends.length ≤ 8 * i + p.2.2 ∧ p.1.outs.length ≤ 8 * i + p.2.2 ∧ ∀ q ∈ p.1.outs, q.time = e.time) (fun p => 20 - p.2.1) (q8q [3, 5, 6, 9, 10, 11] rfl) (a0o [0, 1, 2, 3, 4, 5, 6, 7, 8] rfl) (S, 0, 0) ⟨Nat.zero_le _, Nat.le_refl _, Nat.zero_le _, h2, h3, h4⟩ [0, 0, 0, 0, 0, 0, 0, 0, 0, _, _] x6x x5x rfl fun p γ2 hi => ?_
 obtain ⟨S, k, m⟩ := p
 obtain ⟨k1, k2, k3, k3a, k4, k5⟩ := hi
 dsimp only at k1 k2 k3 k3a k4 k5 ⊢
 refine dc 6 (fun K K' => aS ?_ ?_)<;>intro u<;>try simp at u
 ·refine dv 3 ?_
  refine x8x (b := 1) rfl rfl (by omega) (dv 1 ?_)
  exact ⟨(S, i + 1), ⟨(by exact ⟨by show i + 1 ≤ _; omega, by show S.sends.length ≤ 8 * (i + 1); omega, by show S.outs.length ≤ 8 * (i + 1); omega, k5⟩), (by show a.rules.length - (i + 1) < a.rules.length - i; omega)⟩, [0, 0, 0, 0, 0, 0, 0, 0, 0, _, _], x6x, x6x, x5x, x5x, rfl⟩
 obtain ⟨o, ho⟩ := gE r.ops k
 have hok := hro.2.1.1 o (List.mem_of_getElem? ho)
 refine dv 3 fun K K' => ?_
 refine a8k fun B X0 w0 => ?_
 refine txR 6 rfl rfl (dv 5 ?_)
 refine v5v (out := .agg (b4q o)) rfl a1v rfl ?_
 refine txM [11, 9, 10] [_, _, _] (c5k S e o hok (by omega) (by omega)) rfl rfl rfl rfl fun j hj => ?_
 obtain ⟨q1, q2, q3, q4, q5⟩ := hj
 obtain ⟨sk, hsk⟩ : ∃ sk : Nat, j.2 = (sk : Int) := ⟨j.2.toNat, by omega⟩
 rw [hsk]
 refine txR 2 rfl rfl (x8x rfl rfl (by omega) (dv 1 ?_))
 refine u3u rfl (dv 2 ?_)
 refine x8x (b := 1) rfl rfl (by omega) (dv 1 ?_)
 exact ⟨(j.1, k + sk + 1, m + 1), ⟨(by exact ⟨by show k + sk + 1 ≤ 20; omega, by show m + 1 ≤ k + sk + 1; omega, by show m + 1 ≤ 8; omega, by show j.1.sends.length ≤ 8 * i + (m + 1); omega, by show j.1.outs.length ≤ 8 * i + (m + 1); omega, fun q hq => (q3 q hq).elim (k5 q) (fun h => h)⟩), (by show 20 - (k + sk + 1) < 20 - k; omega)⟩, [0, 0, 0, 0, 0, 0, 0, 0, 0, _, _], x6x, x6x, x5x, x5x, rfl⟩
end
section
theorem d0o (c : Bool) (p : Pa) (proc : Int) : a0q Tryz.prog 219 [.agg (a0j c p), .pv (.int .i64 proc)] (.pv (.bool (b9h proc p))) := by
 refine pX Tryz.f219 [.pv (.bool (b9h proc p))] 1 ?_
 refine dv 1 ?_
 refine y0y (id := 0) rfl rfl rfl (dv 3 ?_)
 refine y7y (out := .agg (y9y p.ev)) rfl z2z rfl rfl ?_
 refine x0x rfl rfl rfl (b6l ..) (dc 1 (aS ?_ ?_))<;>intro h<;>try simp at h
 ·refine dv 22 ?_
  refine x2x rfl ?_ rfl
  simp [b9h, *]
 refine dc 7 (aS ?_ ?_)<;>intro h<;>try simp at h
 ·refine dv 15 ?_
  refine x2x rfl ?_ rfl
  simp [b9h, *]
 refine dv 1 ?_
 refine y7y (out := .agg (s1s p.after)) rfl a5r rfl rfl ?_
 refine dv 0 ?_
 refine x0x rfl rfl rfl (b6k ..) (dc 2 (aS ?_ ?_))<;>intro h<;>try simp at h
 ·refine dv 10 ?_
  refine x2x rfl ?_ rfl
  simp [b9h, *]
 refine dv 2 ?_
 refine x0x rfl rfl rfl (a6g ..) (dc 2 (aS ?_ ?_))<;>intro h<;>try simp at h
 ·refine dv 5 ?_
  refine x2x rfl ?_ rfl
  simp [b9h, *]
 refine dv 2 ?_
 refine x0x rfl rfl rfl (b9p ..) (dv 3 ?_)
 refine x2x rfl ?_ rfl
 simp [b9h, *]
theorem c2e (c : Bool) (p : Pa) (proc : Int) : a0q Tryz.prog 120 [.agg (a0j c p), .pv (.int .i64 proc)] (.pv (.bool (b9h proc p))) := by
 refine pX Tryz.f120 [.pv (.bool (b9h proc p))] 1 ?_
 refine dv 1 ?_
 refine y0y (id := 0) rfl rfl rfl (dv 3 ?_)
 refine y7y (out := .agg (y9y p.ev)) rfl z2z rfl rfl ?_
 refine x0x rfl rfl rfl (a8b ..) (dc 1 (aS ?_ ?_))<;>intro h<;>try simp at h
 ·refine dv 22 ?_
  refine x2x rfl ?_ rfl
  simp [b9h, *]
 refine dc 7 (aS ?_ ?_)<;>intro h<;>try simp at h
 ·refine dv 15 ?_
  refine x2x rfl ?_ rfl
  simp [b9h, *]
 refine dv 1 ?_
 refine y7y (out := .agg (s1s p.after)) rfl a5r rfl rfl ?_
 refine dv 0 ?_
 refine x0x rfl rfl rfl (a7z ..) (dc 2 (aS ?_ ?_))<;>intro h<;>try simp at h
 ·refine dv 10 ?_
  refine x2x rfl ?_ rfl
  simp [b9h, *]
 refine dv 2 ?_
 refine x0x rfl rfl rfl (a4d ..) (dc 2 (aS ?_ ?_))<;>intro h<;>try simp at h
 ·refine dv 5 ?_
  refine x2x rfl ?_ rfl
  simp [b9h, *]
 refine dv 2 ?_
 refine x0x rfl rfl rfl (a8o ..) (dv 3 ?_)
 refine x2x rfl ?_ rfl
 simp [b9h, *]
theorem a4k  : a0q Tryz.prog 119 [] (.pv (.int .i64 100)) := by
 refine pX Tryz.f119 [.pv (.int .i64 100)] 0 ?_
 refine dv 5 ?_
 exact x2x rfl rfl rfl
theorem d0p (c : Bool) (l : La) : a0q Tryz.prog 113 [.agg (q7q c l)] (.pv (.bool (a7q l))) := by
 refine pX Tryz.f113 [.pv (.bool (a7q l))] 2 ?_
 refine dv 1 ?_
 refine y0y (id := 0) rfl rfl rfl (dv 5 fun K K' => ?_)
 refine x0x rfl rfl rfl (a8m ..) (dc 2 (aS ?_ ?_))<;>intro hg2<;>try simp at hg2
 ·have hn1 : ¬ (0 ≤ l.proc ∧ l.proc ≤ 3) := by omega
  refine dv 11 ?_
  try have hn3 : ¬ l.done.length ≤ 100 := by omega
  refine dv 3 ?_
  refine x2x rfl ?_ rfl
  exact congrArg (fun b : Bool => [AV.pv (.bool b)]) (e9w hn1).symm
 have hc1 : 0 ≤ l.proc ∧ l.proc ≤ 3 := hg2
 refine dv 1 ?_
 refine y7y (out := .agg (s1s l.base)) rfl a5r rfl rfl ?_
 refine dv 0 ?_
 refine x0x rfl rfl rfl (b6k ..) (dc 3 (aS ?_ ?_))<;>intro hg3<;>try simp at hg3
 ·have hn2 : ¬ c6e l.base := hg3
  refine dv 5 ?_
  try have hn3 : ¬ l.done.length ≤ 100 := by omega
  refine dv 3 ?_
  refine x2x rfl ?_ rfl
  exact congrArg (fun b : Bool => [AV.pv (.bool b)]) (e9x hn2).symm
 have hc2 : c6e l.base := hg3
 refine dc 5 (aI ?_ ?_)<;>intro h<;>try simp at h
 ·try have hn3 : ¬ l.done.length ≤ 100 := by omega
  refine dv 3 ?_
  refine x2x rfl ?_ rfl
  exact congrArg (fun b : Bool => [AV.pv (.bool b)]) (e9y hn3).symm
 have hc3 : l.done.length ≤ 100 := by omega
 refine dv 8 fun K K' => ?_
 refine x4x (ι := Nat) (fun i γ1 => [(24, pI (i : Int))]) (fun i γ1 => [(1, ((γ1 1), .dead))]) (fun i => i ≤ l.done.length ∧ a7q l = b1c (b9h l.proc) e9v (b3p l.done i) (l.done.drop i)) (fun i => l.done.length - i) (q8q [1, 22, 23] rfl) (u9u 0 rfl HE.nil) 0 ⟨by omega, c9o hc1 hc2 hc3⟩ [0, _] x6x x5x rfl fun i γ1 hi => ?_
 obtain ⟨h1, h2⟩ := hi
 refine dc 3 (fun K K' => aS ?_ ?_)<;>intro h<;>try simp at h
 ·obtain rfl : i = l.done.length := by omega
  rw [List.drop_length] at h2
  refine dv 4 ?_
  refine x2x rfl ?_ rfl
  exact congrArg (fun b : Bool => [AV.pv (.bool b)]) h2.symm
 obtain ⟨p, hp⟩ := gE l.done i
 rw [p6p hp] at h2
 refine dv 7 fun K K' => ?_
 refine x3x (id := 1) a3p c0o rfl (dv 6 ?_)
 refine x0x rfl rfl rfl (d0o ..) (dc 2 (aS ?_ ?_))<;>intro hg9<;>try simp at hg9
 ·have hbad : b9h l.proc p = false := by simpa using hg9
  refine dv 19 ?_
  refine x2x rfl ?_ rfl
  exact congrArg (fun b : Bool => [AV.pv (.bool b)]) (h2.trans (a6y _ _ hbad)).symm
 have hok : b9h l.proc p = true := by simpa using hg9
 refine dc 3 (aS ?_ ?_)<;>intro h<;>try simp at h
 ·have hi0 : i = 0 := by omega
  have hlast : b3p l.done i = none := by rw [hi0]; rfl
  rw [hlast] at h2
  refine dv 15 ?_
  refine x8x (b := 1) rfl rfl (by omega) (dv 1 ?_)
  exact ⟨i + 1, ⟨⟨by omega, by rw [h2]; show _ = b1c (b9h l.proc) e9v l.done[i]? _; rw [hp]; exact a8v _ _ hok⟩, by omega⟩, [0, _], x6x, x6x, x5x, x5x, rfl⟩
 have hi0 : 0 < i := by omega
 obtain ⟨b, hb⟩ := gE l.done (i - 1)
 have hlast : b3p l.done i = some b := by obtain ⟨j, rfl⟩ : ∃ j, i = j + 1 := ⟨i - 1, by omega⟩; exact hb
 rw [hlast] at h2
 refine dv 3 ?_
 refine p5p (b := 1) rfl rfl (by omega) (by omega) (dv 2 ?_)
 refine v5v (out := .agg (y9y b.ev)) rfl z2z rfl ?_
 refine dv 1 ?_
 refine y7y (out := .agg (y9y p.ev)) rfl z2z rfl rfl ?_
 refine dv 0 ?_
 refine x0x rfl rfl rfl (b3h ..) (dc 3 (aS ?_ ?_))<;>intro hc11<;>try simp at hc11
 ·try have hlt := hc11
  refine dv 2 ?_
  refine x8x (b := 1) rfl rfl (by omega) (dv 1 ?_)
  exact ⟨i + 1, ⟨⟨by omega, by rw [h2]; show _ = b1c (b9h l.proc) e9v l.done[i]? _; rw [hp]; exact b1r _ _ hok hlt⟩, by omega⟩, [0, _], x6x, x6x, x5x, x5x, rfl⟩
 try have hlt := hc11
 refine dv 3 ?_
 refine x2x rfl ?_ rfl
 exact congrArg (fun b : Bool => [AV.pv (.bool b)]) (h2.trans (c0w _ _ hlt)).symm
theorem a4l (c : Bool) (l : La) : a0q Tryz.prog 32 [.agg (q7q c l)] (.pv (.bool (a7q l))) := by
 refine pX Tryz.f32 [.pv (.bool (a7q l))] 1 ?_
 refine dv 1 ?_
 refine y0y (id := 0) rfl rfl rfl (dv 5 fun K K' => ?_)
 refine x0x rfl rfl rfl (a4j ..) (dc 2 (aS ?_ ?_))<;>intro hg2<;>try simp at hg2
 ·have hn1 : ¬ (0 ≤ l.proc ∧ l.proc ≤ 3) := by omega
  refine dv 12 ?_
  try have hn3 : ¬ l.done.length ≤ 100 := by omega
  refine dv 3 ?_
  refine x2x rfl ?_ rfl
  exact congrArg (fun b : Bool => [AV.pv (.bool b)]) (e9w hn1).symm
 have hc1 : 0 ≤ l.proc ∧ l.proc ≤ 3 := hg2
 refine dv 1 ?_
 refine y7y (out := .agg (s1s l.base)) rfl a5r rfl rfl ?_
 refine dv 0 ?_
 refine x0x rfl rfl rfl (a7z ..) (dc 3 (aS ?_ ?_))<;>intro hg3<;>try simp at hg3
 ·have hn2 : ¬ c6e l.base := hg3
  refine dv 6 ?_
  try have hn3 : ¬ l.done.length ≤ 100 := by omega
  refine dv 3 ?_
  refine x2x rfl ?_ rfl
  exact congrArg (fun b : Bool => [AV.pv (.bool b)]) (e9x hn2).symm
 have hc2 : c6e l.base := hg3
 refine dv 3 ?_
 refine x0x rfl rfl rfl (a4k ..) (dc 2 (aI ?_ ?_))<;>intro h<;>try simp at h
 ·try have hn3 : ¬ l.done.length ≤ 100 := by omega
  refine dv 3 ?_
  refine x2x rfl ?_ rfl
  exact congrArg (fun b : Bool => [AV.pv (.bool b)]) (e9y hn3).symm
 have hc3 : l.done.length ≤ 100 := by omega
 refine dv 5 fun K K' => ?_
 refine x4x (ι := Nat) (fun i γ1 => [(3, pI (i : Int))]) (fun i γ1 => []) (fun i => i ≤ l.done.length ∧ a7q l = b1c (b9h l.proc) e9v (b3p l.done i) (l.done.drop i)) (fun i => l.done.length - i) (x7x 1 rfl Cov.nil) (u9u 0 rfl HE.nil) 0 ⟨by omega, c9o hc1 hc2 hc3⟩ [] x6x x5x rfl fun i γ1 hi => ?_
 obtain ⟨h1, h2⟩ := hi
 refine dc 7 (fun K K' => aS ?_ ?_)<;>intro h<;>try simp at h
 ·obtain rfl : i = l.done.length := by omega
  rw [List.drop_length] at h2
  refine dv 4 ?_
  refine x2x rfl ?_ rfl
  exact congrArg (fun b : Bool => [AV.pv (.bool b)]) h2.symm
 obtain ⟨p, hp⟩ := gE l.done i
 rw [p6p hp] at h2
 refine dv 11 fun K K' => ?_
 refine x0x rfl rfl rfl (c2e ..) (dc 2 (aS ?_ ?_))<;>intro hg9<;>try simp at hg9
 ·have hbad : b9h l.proc p = false := by simpa using hg9
  refine dv 23 ?_
  refine x2x rfl ?_ rfl
  exact congrArg (fun b : Bool => [AV.pv (.bool b)]) (h2.trans (a6y _ _ hbad)).symm
 have hok : b9h l.proc p = true := by simpa using hg9
 refine dc 3 (aS ?_ ?_)<;>intro h<;>try simp at h
 ·have hi0 : i = 0 := by omega
  have hlast : b3p l.done i = none := by rw [hi0]; rfl
  rw [hlast] at h2
  refine dv 20 ?_
  refine x8x (b := 1) rfl rfl (by omega) (dv 1 ?_)
  exact ⟨i + 1, ⟨⟨by omega, by rw [h2]; show _ = b1c (b9h l.proc) e9v l.done[i]? _; rw [hp]; exact a8v _ _ hok⟩, by omega⟩, [], x6x, x6x, x5x, x5x, rfl⟩
 have hi0 : 0 < i := by omega
 obtain ⟨b, hb⟩ := gE l.done (i - 1)
 have hlast : b3p l.done i = some b := by obtain ⟨j, rfl⟩ : ∃ j, i = j + 1 := ⟨i - 1, by omega⟩; exact hb
 rw [hlast] at h2
 refine dv 3 ?_
 refine p5p (b := 1) rfl rfl (by omega) (by omega) (dv 2 ?_)
 refine v5v (out := .agg (y9y b.ev)) rfl z2z rfl ?_
 refine dv 5 ?_
 refine v5v (out := .agg (y9y p.ev)) rfl z2z rfl ?_
 refine dv 0 ?_
 refine x0x rfl rfl rfl (a5f ..) (dc 3 (aS ?_ ?_))<;>intro hc11<;>try simp at hc11
 ·try have hlt := hc11
  refine dv 3 ?_
  refine x8x (b := 1) rfl rfl (by omega) (dv 1 ?_)
  exact ⟨i + 1, ⟨⟨by omega, by rw [h2]; show _ = b1c (b9h l.proc) e9v l.done[i]? _; rw [hp]; exact b1r _ _ hok hlt⟩, by omega⟩, [], x6x, x6x, x5x, x5x, rfl⟩
 try have hlt := hc11
 refine dv 3 ?_
 refine x2x rfl ?_ rfl
 exact congrArg (fun b : Bool => [AV.pv (.bool b)]) (h2.trans (c0w _ _ hlt)).symm
end
section
theorem a1z (c : Bool) (l : List Ev) (hl : l.length ≤ 10000000) : a0q Tryz.prog 111 [q2q c l] (q2q true (z4z l)) := by
 refine pX Tryz.f111 [q2q true (z4z l)] 3 ?_
 refine dv 3 ?_
 refine y1y (id := 0) u4u rfl z2z rfl (dv 5 fun K K' => ?_)
 refine x4x (ι := Nat) (fun i γ1 => [(3, .ref 0 (γ1 0)), (4, pI (i : Int))]) (fun i γ1 => [(0, ((γ1 0), .row 56 7 ((z4z (l.take i)).map y9y))), (1, ((γ1 1), .dead)), (2, ((γ1 2), .dead))]) (fun i => i ≤ l.length) (fun i => l.length - i) (x7x 0 rfl Cov.nil) HE.nil 0 (by omega) [_, _, _] x6x (HE.row rfl (by rw [List.take_zero]; rfl) (HE.kill rfl (HE.kill rfl HE.nil))) rfl fun i γ1 hi => ?_
 refine dc 6 (fun K K' => aS ?_ ?_)<;>intro o<;>try simp at o
 ·obtain rfl : i = l.length := by omega
  refine dv 5 ?_
  refine a5h rfl rfl (fun _ => rfl) ?_
  rw [List.take_length]
 obtain ⟨x, hx⟩ := gE l i
 have hol : (z4z (l.take i)).length ≤ 10000000 := Nat.le_trans (a9i _) (by rw [List.length_take]; omega)
 have hss := b4j (l.take i)
 refine dv 7 fun K K' => ?_
 refine p7p (ι := Nat) (fun k γ2 => [(5, pI (k : Int))]) (fun k γ2 => []) (fun k => k ≤ (z4z (l.take i)).length ∧ (∀ (j : Nat) y, k ≤ j → (z4z (l.take i))[j]? = some y → a2r x y = true) ∧ (∀ y, 0 < k → (z4z (l.take i))[k - 1]? = some y → a2r x y = false)) (q8q [0, 3, 4] rfl) (a0o [0, 1, 2] rfl) ?_ fun k γ2 hi => ?_
 ·refine dv 1 ?_
  refine x4x (ι := Nat) (fun k γ3 => [(5, pI (k : Int))]) (fun k γ3 => []) (fun k => k ≤ (z4z (l.take i)).length ∧ (∀ (j : Nat) y, k ≤ j → (z4z (l.take i))[j]? = some y → a2r x y = true)) (fun k => k) (q8q [0, 3, 4] rfl) (a0o [0, 1, 2] rfl) (z4z (l.take i)).length ⟨Nat.le_refl _, fun j y hj hy => by have := (List.getElem?_eq_some_iff.1 hy).1; omega⟩ [] x6x x5x rfl fun k γ3 hi => ?_
  obtain ⟨k1, k2⟩ := hi
  refine dc 5 (fun K K' => aS ?_ ?_)<;>intro o<;>try simp at o
  ·have k0 : k = 0 := by omega
   refine dv 12 ?_
   exact ⟨k, ⟨k1, k2, fun y2 h0 h2 => by omega⟩, [], x6x, x6x, x5x, x5x, rfl⟩
  have k0 : 0 < k := by omega
  obtain ⟨y, hy⟩ := gE (z4z (l.take i)) (k - 1)
  refine dv 6 ?_
  refine p5p (b := 1) rfl rfl (by omega) (by omega) (dv 0 ?_)
  refine z0z (j := k - 1) rfl rfl u4u rfl z2z rfl rfl (by omega) ?_
  refine dv 1 ?_
  refine x0x rfl rfl rfl (a5f ..) (dc 1 (aS ?_ ?_))<;>intro hc7<;>try simp at hc7
  ·try have hlt := hc7
   refine dv 1 ?_
   exact ⟨k, ⟨k1, k2, fun y2 h0 h2 => by (rw [hy] at h2; cases h2; exact hlt)⟩, [], x6x, x6x, x5x, x5x, rfl⟩
  try have hlt := hc7
  refine dv 4 ?_
  refine p5p (b := 1) rfl rfl (by omega) (by omega) (dv 1 ?_)
  exact ⟨k - 1, ⟨⟨by omega, fun j y2 hj hy2 => by by_cases hjk : j = k - 1; (subst hjk; rw [hy] at hy2; cases hy2; exact hlt); exact k2 j y2 (by omega) hy2⟩, by omega⟩, [], x6x, x6x, x5x, x5x, rfl⟩
 ·try dsimp only [b1d, b1e]
  obtain ⟨c1, c2, c3⟩ := hi
  refine dc 5 (fun K K' => aS ?_ ?_)<;>intro o<;>try simp at o
  ·have k0 : k = 0 := by omega
   refine dv 11 ?_
   have hin : z4z (l.take (i + 1)) = (z4z (l.take i)).take k ++ x :: (z4z (l.take i)).drop k := by rw [a6s hx]; exact c9r c4e hss c2 (fun y2 h0 h2 => ⟨c3 y2 h0 h2, by omega⟩) c1
   refine dv 7 ?_
   refine y3y (id := 1) u4u rfl z2z rfl rfl rfl rfl rfl rfl ?_
   refine y6y (zs := (z4z (l.take i) ++ [x]).map y9y) rfl rfl u4u rfl z2z rfl rfl rfl rfl (by rfl) (z7z _ _ _) (by have hb56 : T56.bytes = 56 := rfl; rw [List.length_map, hb56]; simp only [r7r, a0c, a0d]; omega) ?_
   refine dv 5 fun K K' => ?_
   refine p5p (b := 1) rfl rfl (by (simp; done)) (by (simp; omega)) ?_
   refine dv 2 ?_
   refine x4x (ι := Nat × Ev) (fun q γ5 => [(6, pI (q.1 : Int))]) (fun q γ5 => [(0, ((γ1 0 + 1), .row 56 7 (((z4z (l.take i)).take q.1 ++ q.2 :: (z4z (l.take i)).drop q.1).map y9y)))]) (fun q => k ≤ q.1 ∧ q.1 ≤ (z4z (l.take i)).length) (fun q => q.1) (q8q [0, 3, 4, 5] rfl) (a0o [1, 2] rfl) ((z4z (l.take i)).length, x) ⟨c1, Nat.le_refl _⟩ [] (Cov.cons' (t := 6) rfl (by simp) Cov.nil) (HE.row rfl (by rw [List.take_length, List.drop_length]) HE.nil) rfl fun q γ5 hi => ?_
   obtain ⟨m, u⟩ := q
   obtain ⟨m1, m2⟩ := hi
   dsimp only at m1 m2 ⊢
   refine dc 5 (fun K K' => aS ?_ ?_)<;>intro o<;>try simp at o
   ·obtain rfl : k = m := by omega
    refine a7s (hkL (by assumption) ?_)
    refine exG (z5z rfl (z5z rfl (z5z rfl (z5z rfl (b0p rfl rfl u4u rfl z2z rfl hx (a7h rfl z2z rfl rfl ?_))))))
    refine z0z (j := k) rfl rfl u4u rfl z2z rfl rfl (y8y (b5x c1)) ?_
    refine v7v (el' := x) rfl rfl z2z rfl rfl rfl (b5x c1) rfl (a3n _) rfl rfl ?_
    refine dv 2 ?_
    refine x8x (b := 1) rfl rfl (by omega) (dv 1 ?_)
    exact ⟨i + 1, ⟨by omega, by omega⟩, [_, _, _], x6x, x6x, (HE.row rfl (by rw [hin, d2p c1]) (HE.kill rfl (HE.kill rfl HE.nil))), x5x, rfl⟩
   obtain ⟨z, hz⟩ := gE (z4z (l.take i)) (m - 1)
   refine dv 8 fun K K' => ?_
   refine p5p (b := 1) rfl rfl (by omega) (by omega) ?_
   refine z0z (j := m - 1) rfl rfl u4u rfl z2z rfl rfl (y8y (c1y m2 (by omega) hz)) ?_
   refine a0g rfl z2z rfl (c1y m2 (by omega) hz) rfl rfl ?_
   refine z0z (j := m) rfl rfl u4u rfl z2z rfl rfl (y8y (b5x m2)) ?_
   refine v7v (el' := z) rfl rfl z2z rfl rfl rfl (b5x m2) rfl (a3n _) rfl rfl ?_
   refine dv 2 ?_
   refine p5p (b := 1) rfl rfl (by omega) (by omega) (dv 1 ?_)
   exact ⟨(m - 1, z), ⟨⟨by dsimp only; omega, by dsimp only; omega⟩, (by dsimp only; omega)⟩, [], x6x, x6x, (HE.row rfl (by rw [d6x m2 (by omega) hz]) HE.nil), x5x, rfl⟩
  have k0 : 0 < k := by omega
  obtain ⟨y, hy⟩ := gE (z4z (l.take i)) (k - 1)
  refine dv 2 ?_
  refine p5p (b := 1) rfl rfl (by omega) (by omega) (dv 0 ?_)
  refine z0z (j := k - 1) rfl rfl u4u rfl z2z rfl rfl (by omega) ?_
  refine dv 5 ?_
  refine a7i rfl rfl (by intro a c h; cases h) (.inl rfl) (e6b _ _ _ _) ?_
  refine dc 1 (aI ?_ ?_)<;>intro hc11<;>try simp at hc11
  ·have hyx : y = x := by simpa [a1u] using hc11
   have hsk : z4z (l.take (i + 1)) = z4z (l.take i) := by rw [a6s hx]; exact e2s c4e hss (List.mem_of_getElem? (hyx ▸ hy))
   refine dv 3 ?_
   refine x8x (b := 1) rfl rfl (by omega) (dv 1 ?_)
   exact ⟨i + 1, ⟨by omega, by omega⟩, [_, _, _], x6x, x6x, (HE.row rfl (by rw [hsk]) (HE.kill rfl (HE.kill rfl HE.nil))), x5x, rfl⟩
  try have hyx : ¬ y = x := by simpa [a1u] using hc11
  have hin : z4z (l.take (i + 1)) = (z4z (l.take i)).take k ++ x :: (z4z (l.take i)).drop k := by rw [a6s hx]; exact c9r c4e hss c2 (fun y2 h0 h2 => ⟨c3 y2 h0 h2, by (rw [hy] at h2; cases h2; exact hyx)⟩) c1
  refine dv 7 ?_
  refine y3y (id := 1) u4u rfl z2z rfl rfl rfl rfl rfl rfl ?_
  refine y6y (zs := (z4z (l.take i) ++ [x]).map y9y) rfl rfl u4u rfl z2z rfl rfl rfl rfl (by rfl) (z7z _ _ _) (by have hb56 : T56.bytes = 56 := rfl; rw [List.length_map, hb56]; simp only [r7r, a0c, a0d]; omega) ?_
  refine dv 5 fun K K' => ?_
  refine p5p (b := 1) rfl rfl (by (simp; done)) (by (simp; omega)) ?_
  refine dv 2 ?_
  refine x4x (ι := Nat × Ev) (fun q γ4 => [(6, pI (q.1 : Int))]) (fun q γ4 => [(0, ((γ1 0 + 1), .row 56 7 (((z4z (l.take i)).take q.1 ++ q.2 :: (z4z (l.take i)).drop q.1).map y9y)))]) (fun q => k ≤ q.1 ∧ q.1 ≤ (z4z (l.take i)).length) (fun q => q.1) (q8q [0, 3, 4, 5] rfl) (a0o [1, 2] rfl) ((z4z (l.take i)).length, x) ⟨c1, Nat.le_refl _⟩ [] (Cov.cons' (t := 6) rfl (by simp) Cov.nil) (HE.row rfl (by rw [List.take_length, List.drop_length]) HE.nil) rfl fun q γ4 hi => ?_
  obtain ⟨m, u⟩ := q
  obtain ⟨m1, m2⟩ := hi
  dsimp only at m1 m2 ⊢
  refine dc 5 (fun K K' => aS ?_ ?_)<;>intro o<;>try simp at o
  ·obtain rfl : k = m := by omega
   refine a7s (hkL (by assumption) ?_)
   refine exG (z5z rfl (z5z rfl (z5z rfl (z5z rfl (b0p rfl rfl u4u rfl z2z rfl hx (a7h rfl z2z rfl rfl ?_))))))
   refine z0z (j := k) rfl rfl u4u rfl z2z rfl rfl (y8y (b5x c1)) ?_
   refine v7v (el' := x) rfl rfl z2z rfl rfl rfl (b5x c1) rfl (a3n _) rfl rfl ?_
   refine dv 2 ?_
   refine x8x (b := 1) rfl rfl (by omega) (dv 1 ?_)
   exact ⟨i + 1, ⟨by omega, by omega⟩, [_, _, _], x6x, x6x, (HE.row rfl (by rw [hin, d2p c1]) (HE.kill rfl (HE.kill rfl HE.nil))), x5x, rfl⟩
  obtain ⟨z, hz⟩ := gE (z4z (l.take i)) (m - 1)
  refine dv 8 fun K K' => ?_
  refine p5p (b := 1) rfl rfl (by omega) (by omega) ?_
  refine z0z (j := m - 1) rfl rfl u4u rfl z2z rfl rfl (y8y (c1y m2 (by omega) hz)) ?_
  refine a0g rfl z2z rfl (c1y m2 (by omega) hz) rfl rfl ?_
  refine z0z (j := m) rfl rfl u4u rfl z2z rfl rfl (y8y (b5x m2)) ?_
  refine v7v (el' := z) rfl rfl z2z rfl rfl rfl (b5x m2) rfl (a3n _) rfl rfl ?_
  refine dv 2 ?_
  refine p5p (b := 1) rfl rfl (by omega) (by omega) (dv 1 ?_)
  exact ⟨(m - 1, z), ⟨⟨by dsimp only; omega, by dsimp only; omega⟩, (by dsimp only; omega)⟩, [], x6x, x6x, (HE.row rfl (by rw [d6x m2 (by omega) hz]) HE.nil), x5x, rfl⟩
end
section
theorem a3k (c : Bool) (l : La) (f t : Nat) (hlen : l.done.length ≤ 1000000) (hf : f ≤ 1000000) (ht : t ≤ 1000000) (hb : ∀ p ∈ l.done, p.sends.length ≤ 1000000 ∧ p.outs.length ≤ 1000000) : a0q Tryz.prog 110 [.agg (q7q c l), .pv (.int .i64 (f : Int)), .pv (.int .i64 (t : Int))] (.agg (q7q true (a1h l f t))) := by
 refine pX Tryz.f110 [.agg (q7q true (a1h l f t))] 11 ?_
 refine dv 1 ?_
 refine y0y (id := 0) rfl rfl rfl (x3x (id := 1) a0l a6o rfl (dv 5 ?_))
 refine rlB a0l a6o ?_
 refine x3x (id := 2) a0l a6o rfl (dv 6 fun K K' => ?_)
 refine a0h 2 4 10 58 12 rfl rfl rfl rfl rfl ?_
 refine x4x (ι := Nat) (fun i γ1 => [(8, pI (i : Int))]) (fun i γ1 => [(10, ((γ1 10), .row 58 12 (((l.done.take i).drop f).map (a0j true)))), (2, ((0 + 1), .box 44 [pI l.proc, pI l.base.x, pI l.base.y, pI l.base.count, .ref 10 (γ1 10)])), (3, ((γ1 3), .dead)), (4, ((γ1 4), .dead)), (5, ((γ1 5), .dead)), (6, ((γ1 6), .dead)), (7, ((γ1 7), .dead)), (8, ((γ1 8), .dead)), (9, ((γ1 9), .dead))]) (fun i => f ≤ i ∧ (i = f ∨ (i ≤ t ∧ i ≤ l.done.length))) (fun i => l.done.length - i) (q8q [2, 3, 6, 7] rfl) (a0o [0, 1] rfl) f ⟨Nat.le_refl _, .inl rfl⟩ [0, 0, 0, _, _, _, _, _, _, _, _] x6x (HE.row rfl (by rw [List.drop_of_length_le (by rw [List.length_take]; omega)]; rfl) (HE.box rfl rfl (HE.kill rfl (HE.kill rfl (HE.kill rfl (HE.kill rfl (HE.kill rfl (HE.kill rfl (HE.kill rfl HE.nil))))))))) rfl fun i γ1 hi => ?_
 obtain ⟨k1, k2⟩ := hi
 refine dc 6 (fun K K' => aS ?_ ?_)<;>intro h<;>try simp at h
 ·refine dv 6 ?_
  have hfin : (l.done.take i).drop f = (l.done.take t).drop f := c9u k1 k2 (by omega)
  refine dv 5 ?_
  rw [a1h, ← hfin]
  exact ⟨_, _, rfl, .agg rfl (.cl rfl (.cl rfl (.cl rfl (.cl rfl (.ref rfl (Le.ow_map _ (fun _ => rfl) (fun _ => rfl)) .nil))))) .nil⟩
 refine dc 6 (aS ?_ ?_)<;>intro h<;>try simp at h
 ·have hfin : (l.done.take i).drop f = (l.done.take t).drop f := c9u k1 k2 (by omega)
  refine dv 5 ?_
  rw [a1h, ← hfin]
  exact ⟨_, _, rfl, .agg rfl (.cl rfl (.cl rfl (.cl rfl (.cl rfl (.ref rfl (Le.ow_map _ (fun _ => rfl) (fun _ => rfl)) .nil))))) .nil⟩
 obtain ⟨p, hp⟩ := gE l.done i
 have g1 : i < t := by omega
 obtain ⟨hps, hpo⟩ := hb p (List.mem_of_getElem? hp)
 refine dv 9 fun K K' => ?_
 refine x3x (id := 3) a3p c0o rfl (dv 5 ?_)
 refine y7y (out := .agg (y9y p.ev)) rfl z2z rfl rfl ?_
 refine dv 1 ?_
 refine y7y (out := .agg (s1s p.after)) rfl a5r rfl rfl ?_
 refine y1y (id := 4) u4u rfl z2z rfl (dv 2 ?_)
 refine a2d v4v (zs := (p.sends).map y9y) rfl rfl u4u rfl z2z rfl rfl rfl (z9z (fun _ => rfl) _) rfl (by (simp only [a0e, r7r, a0c, a0d, a0r, a2y, b3u, T56]; omega)) (Le.ow_map _ (fun _ => rfl) (fun _ => rfl)) ?_
 refine y1y (id := 6) a0x rfl w9w rfl (dv 2 ?_)
 refine a2d v4v (zs := (p.outs).map q5q) rfl rfl a0x rfl w9w rfl rfl rfl (z9z (fun _ => rfl) _) rfl (by (simp only [a0e, r7r, a0c, a0d, a0r, a2y, b3u, T141]; omega)) (Le.ow_map _ (fun _ => rfl) (fun _ => rfl)) ?_
 refine rlB a3p c0o ?_
 refine y3y (id := 8) a6n rfl a3p rfl rfl rfl rfl rfl rfl ?_
 refine y6y (zs := ((l.done.take i).drop f ++ [p]).map (a0j true)) rfl rfl a6n rfl a3p rfl rfl rfl rfl (by rfl) (z7z _ _ _) (by (simp only [a0e, r7r, a0c, a0d, a0r, a2y, b3u, T58]; omega)) ?_
 refine dv 4 ?_
 refine x8x (b := 1) rfl rfl (by omega) (dv 1 ?_)
 exact ⟨i + 1, ⟨⟨by omega, .inr ⟨by omega, by omega⟩⟩, by omega⟩, [0, 0, 0, _, _, _, _, _, _, _, _], x6x, x6x, (HE.row rfl (by rw [z6z hp, List.drop_append_of_le_length (by rw [List.length_take]; omega)]) (HE.box rfl rfl (HE.kill rfl (HE.kill rfl (HE.kill rfl (HE.kill rfl (HE.kill rfl (HE.kill rfl (HE.kill rfl HE.nil))))))))), x5x, rfl⟩
theorem a6u (c : Bool) (n : Nd) (hl : n.lanes.length ≤ 1000000) (hk : n.kept.length ≤ 1000000) (ho : n.outs.length ≤ 1000000) (hd : ∀ l ∈ n.lanes, lb l) : Meth Tryz.prog 155 3 [] [.agg (u2u c n)] [(0, (0, .dead)), (1, (0, .dead)), (2, (0, .dead))] (.agg [pI n.id, .pv (.bool n.up), pI n.inc, pI n.g, .ref 0 0, q2q true n.kept, r0r true n.outs, pI n.led, pI 0, .ref 1 0, .ref 2 0, pI 0, pI 41]) [(0, (0, .row 44 5 ((n.lanes.map r5r).map (q7q true)))), (1, (0, .row 190 3 ([vi0, vi0, vi0].map (a2c true)))), (2, (0, .row 3 1 ([0, 0, 0].map a2w)))] := by
 refine mX Tryz.f155 [.agg [pI n.id, .pv (.bool n.up), pI n.inc, pI n.g, .ref 0 0, q2q true n.kept, r0r true n.outs, pI n.led, pI 0, .ref 1 0, .ref 2 0, pI 0, pI 41]] 3 13 fun γ => ?_
 refine dv 1 ?_
 refine y0y (id := 3) rfl rfl rfl (x3x (id := 4) v0v q0q rfl (dv 9 ?_))
 refine y1y (id := 5) u4u rfl z2z rfl (dv 2 ?_)
 refine a2d v4v (zs := (n.kept).map y9y) rfl rfl u4u rfl z2z rfl rfl rfl (z9z (fun _ => rfl) _) rfl (by (simp only [a0e, r7r, a0c, a0d, a0r, a2y, b3u, T56]; omega)) (Le.ow_map _ (fun _ => rfl) (fun _ => rfl)) ?_
 refine y1y (id := 7) a0x rfl w9w rfl (dv 2 ?_)
 refine a2d v4v (zs := (n.outs).map q5q) rfl rfl a0x rfl w9w rfl rfl rfl (z9z (fun _ => rfl) _) rfl (by (simp only [a0e, r7r, a0c, a0d, a0r, a2y, b3u, T141]; omega)) (Le.ow_map _ (fun _ => rfl) (fun _ => rfl)) ?_
 refine dv 2 ?_
 refine rlB v0v q0q ?_
 refine x3x (id := 9) v0v q0q rfl (dv 5 fun K K' => ?_)
 refine a0h 9 4 0 44 5 rfl rfl rfl rfl rfl ?_
 refine x4x (ι := Nat) (fun i γ1 => [(4, pI (i : Int))]) (fun i γ1 => [(0, ((γ1 0), .row 44 5 (((n.lanes.take i).map r5r).map (q7q true)))), (9, ((0 + 1), .box 65 [pI n.id, .pv (.bool n.up), pI n.inc, pI n.g, .ref 0 (γ1 0), q2q true n.kept, r0r true n.outs, pI n.led, pI 0, .pv (.slice none 0 0), .pv (.slice none 0 0), pI 0, pI 41])), (10, ((γ1 10), .dead)), (11, ((γ1 11), .dead))]) (fun i => i ≤ n.lanes.length) (fun i => n.lanes.length - i) (q8q [1, 2, 3] rfl) (a0o [1, 2, 3, 4, 5, 6, 7, 8, 12, 13, 14, 15] rfl) 0 (by omega) [_, 0, 0, 0, 0, 0, 0, 0, 0, 0, _, _] x6x (HE.row rfl (by rw [List.take_zero]; rfl) (HE.box rfl rfl (HE.kill rfl (HE.kill rfl HE.nil)))) rfl fun i γ1 hi => ?_
 refine dc 7 (fun K K' => aI ?_ ?_)<;>intro h<;>try simp at h
 ·obtain ⟨a, ha⟩ := gE n.lanes i
  have had := hd a (List.mem_of_getElem? ha)
  refine dv 11 fun K K' => ?_
  refine x0x rfl rfl rfl (a3k c a 0 0 had.1 (by omega) (by omega) had.2) ?_
  refine y3y (id := 10) a7u rfl a0l rfl rfl rfl rfl rfl rfl ?_
  refine y6y (zs := ((n.lanes.take i).map r5r ++ [r5r a]).map (q7q true)) rfl rfl a7u rfl a0l rfl rfl rfl rfl (by rfl) (z7z _ _ _) (by (simp only [a0e, r7r, a0c, a0d, a0r, a2y, b3u, T44]; omega)) ?_
  refine dv 4 ?_
  refine z8z rfl rfl rfl (dv 1 ?_)
  exact ⟨i + 1, ⟨by omega, by omega⟩, [_, 0, 0, 0, 0, 0, 0, 0, 0, 0, _, _], (Cov.cons' (t := 4) rfl (by rw [x9x (by omega) (by omega)]; rfl) Cov.nil), x6x, (HE.row rfl (by simp only [z6z ha, List.map_append, List.map_cons, List.map_nil]) (HE.box rfl rfl (HE.kill rfl (HE.kill rfl HE.nil)))), x5x, rfl⟩
 obtain rfl : i = n.lanes.length := by omega
 refine dv 5 fun K K' => ?_
 refine a0h 9 9 1 190 3 rfl rfl rfl rfl rfl (a0h 9 10 2 3 1 rfl rfl rfl rfl rfl ?_)
 refine x4x (ι := Nat) (fun i γ2 => [(5, pI (i : Int))]) (fun i γ2 => [(1, ((γ2 1), .row 190 3 ((List.range i).map fun _ => b3g))), (2, ((γ2 2), .row 3 1 ((List.range i).map fun _ => a2w 0))), (9, ((0 + 1), .box 65 [pI n.id, .pv (.bool n.up), pI n.inc, pI n.g, .ref 0 (γ1 0), q2q true n.kept, r0r true n.outs, pI n.led, pI 0, .ref 1 (γ2 1), .ref 2 (γ2 2), pI 0, pI 41])), (12, ((γ2 12), .dead)), (13, ((γ2 13), .dead)), (14, ((γ2 14), .dead)), (15, ((γ2 15), .dead))]) (fun i => i ≤ 3) (fun i => 3 - i) (q8q [2, 3] rfl) (a0o [0, 3, 4, 5, 6, 7, 8, 10, 11] rfl) 0 (by omega) [0, _, _, 0, 0, 0, 0, 0, 0, 0, 0, 0, _, _, _, _] x6x x5x rfl fun i γ2 hi => ?_
 refine dc 4 (fun K K' => aS ?_ ?_)<;>intro h<;>try simp at h
 ·obtain rfl : i = 3 := by omega
  rw [List.take_length]
  refine dv 4 ?_
  refine d2c (f := fun _ => b3g) (f' := fun _ => a2c true vi0) (l := List.range 3) 1 rfl (fun _ => .same (.same (.le rfl .nil rfl .nil))) ?_
  refine dv 1 ?_
  exact ⟨[_, _, _], rfl, rfl, x5x⟩
 refine dv 6 fun K K' => ?_
 refine rlB r1r a4s ?_
 refine y3y (id := 12) a9v rfl r1r rfl rfl rfl rfl rfl rfl ?_
 refine y6y (zs := (List.range i).map (fun _ => b3g) ++ [b3g]) rfl rfl a9v rfl r1r rfl rfl rfl rfl (by rfl) rfl (by (simp only [a0e, r7r, a0c, a0d, a0r, a2y, b3u, T190]; omega)) ?_
 refine dv 5 ?_
 refine a8y (id := 14) a0n rfl s3s rfl rfl rfl rfl rfl ?_
 refine y6y (zs := (List.range i).map (fun _ => a2w 0) ++ [a2w 0]) rfl rfl a0n rfl s3s rfl rfl rfl rfl (by rfl) rfl (by (simp only [a0e, r7r, a0c, a0d, a0r, a2y, b3u, T3]; omega)) ?_
 refine dv 4 ?_
 refine z8z rfl rfl rfl (dv 1 ?_)
 exact ⟨i + 1, ⟨by omega, by omega⟩, [0, _, _, 0, 0, 0, 0, 0, 0, 0, 0, 0, _, _, _, _], (Cov.cons' (t := 5) rfl (by rw [x9x (by omega) (by omega)]; rfl) Cov.nil), x6x, (HE.row rfl (by rw [List.range_succ, List.map_append]; rfl) (HE.row rfl (by rw [List.range_succ, List.map_append]; rfl) (HE.box rfl rfl (HE.kill rfl (HE.kill rfl (HE.kill rfl (HE.kill rfl HE.nil))))))), x5x, rfl⟩
end
section
theorem a6i (c : Bool) (l : La) (h : lb l) : a0q Tryz.prog 110 [.agg (q7q c l), .pv (.int .i64 ((0 : Nat) : Int)), .pv (.int .i64 (l.done.length : Int))] (.agg (q7q true l)) := by
 have := a3k c l 0 l.done.length h.1 (by omega) h.1 h.2
 rw [b2r] at this
 exact this
theorem y4y (c : Bool) (n : Nd) (h : nb n) : Meth Tryz.prog 161 3 [] [.agg (u2u c n)] [(0, (0, .dead)), (1, (0, .dead)), (2, (0, .dead))] (.agg [pI n.id, .pv (.bool n.up), pI n.inc, pI n.g, .ref 0 0, q2q true n.kept, r0r true n.outs, pI n.led, pI n.version, .ref 1 0, .ref 2 0, pI n.round, pI n.low]) [(0, (0, .row 44 5 ((n.lanes).map (q7q true)))), (1, (0, .row 190 3 ((n.views).map (a2c true)))), (2, (0, .row 3 1 (n.known.map a2w)))] := by
 refine mX Tryz.f161 [.agg [pI n.id, .pv (.bool n.up), pI n.inc, pI n.g, .ref 0 0, q2q true n.kept, r0r true n.outs, pI n.led, pI n.version, .ref 1 0, .ref 2 0, pI n.round, pI n.low]] 3 10 fun γ => ?_
 obtain ⟨b1, b2, b3, b4, b5, b6, b7⟩ := h
 refine dv 1 ?_
 refine y0y (id := 3) rfl rfl rfl (x3x (id := 4) v0v q0q rfl (dv 2 ?_))
 refine rlM [0, 11, 12] [_, _, _] (a6u c n b1 b2 b3 b4) rfl rfl rfl ?_
 refine x3x (id := 5) v0v q0q rfl (dv 5 fun K K' => ?_)
 refine x4x (ι := Nat) (fun i γ1 => [(4, pI (i : Int))]) (fun i γ1 => [(0, ((γ 0 + 1), .row 44 5 ((n.lanes.take i ++ (n.lanes.drop i).map r5r).map (q7q true))))]) (fun i => i ≤ n.lanes.length) (fun i => n.lanes.length - i) (q8q [1, 2, 3] rfl) (a0o [1, 2, 3, 4, 5, 6, 7, 8, 9, 10, 11, 12] rfl) 0 (by omega) [] x6x (HE.row rfl (by rw [List.take_zero, List.drop_zero]; rfl) HE.nil) rfl fun i γ1 hi => ?_
 refine dc 7 (fun K K' => aI ?_ ?_)<;>intro o<;>try simp at o
 ·obtain ⟨p, hp⟩ := gE n.lanes i
  have hpl := b4 p (List.mem_of_getElem? hp)
  have hAl : ((n.lanes.take i).map (q7q true)).length = i := by rw [List.length_map, List.length_take]; omega
  rw [p6p hp, List.map_cons, List.map_append, List.map_cons]
  refine dv 19 fun K K' => ?_
  refine x0x rfl rfl rfl (a6i c p hpl) (b4e rfl rfl a7u rfl a0l rfl rfl hAl (b1m hAl rfl rfl a0l rfl rfl rfl rfl (s4s rfl) rfl ?_))
  refine dv 2 ?_
  refine z8z rfl rfl rfl (dv 1 ?_)
  exact ⟨i + 1, ⟨by omega, by omega⟩, [], (Cov.cons' (t := 4) rfl (by rw [x9x (by omega) (by omega)]; rfl) Cov.nil), x6x, (HE.row rfl (by simp only [z6z hp, List.map_append, List.append_assoc]; rfl) HE.nil), x5x, rfl⟩
 obtain rfl : i = n.lanes.length := by omega
 rw [List.take_length, List.drop_length, List.map_nil, List.append_nil]
 refine dv 17 ?_
 refine y1y (id := 1) a9v rfl r1r rfl (dv 6 fun K K' => ?_)
 refine x4x (ι := Nat) (fun j γ2 => [(5, pI (j : Int))]) (fun j γ2 => [(1, ((γ2 1), .row 190 3 ((n.views.take j).map (a2c true)))), (5, ((0 + 1), .box 65 [pI n.id, .pv (.bool n.up), pI n.inc, pI n.g, .ref 0 (γ 0 + 1), q2q true n.kept, r0r true n.outs, pI n.led, pI n.version, .ref 1 (γ2 1), .ref 12 (0 + 1), pI n.round, pI n.low])), (6, ((γ2 6), .dead)), (7, ((γ2 7), .dead)), (8, ((γ2 8), .dead)), (9, ((γ2 9), .dead))]) (fun j => j ≤ n.views.length) (fun j => n.views.length - j) (q8q [1, 2, 3] rfl) (a0o [0, 2, 3, 4, 10, 11, 12] rfl) 0 (by omega) [0, _, 0, 0, 0, 0, _, _, _, _] x6x (HE.row rfl (by rw [List.take_zero]; rfl) (HE.box rfl rfl (HE.kill rfl (HE.kill rfl (HE.kill rfl (HE.kill rfl HE.nil)))))) rfl fun j γ2 hi => ?_
 refine dc 7 (fun K K' => aS ?_ ?_)<;>intro o<;>try simp at o
 ·obtain rfl : j = n.views.length := by omega
  rw [List.take_length]
  refine dv 2 ?_
  refine y1y (id := 2) a0n rfl s3s rfl (dv 2 ?_)
  refine w5w (zs := n.known.map a2w) rfl rfl a0n rfl s3s rfl rfl rfl (z9z (fun _ => rfl) _) rfl (by (simp only [a0e, r7r, a0c, a0d, a0r, a2y, b3u, T3]; omega)) ?_
  refine dv 6 ?_
  exact ⟨[_, _, _], rfl, rfl, x5x⟩
 obtain ⟨v, hv⟩ := gE n.views j
 have hve := b6 v (List.mem_of_getElem? hv)
 refine dv 18 fun K K' => ?_
 refine y1y (id := 6) u4u rfl z2z rfl (dv 6 ?_)
 refine a2d v4v (zs := (v.events).map y9y) rfl rfl u4u rfl z2z rfl rfl rfl (z9z (fun _ => rfl) _) rfl (by (simp only [a0e, r7r, a0c, a0d, a0r, a2y, b3u, T56]; omega)) (Le.ow_map _ (fun _ => rfl) (fun _ => rfl)) ?_
 refine rlB r1r a4s ?_
 refine y3y (id := 8) a9v rfl r1r rfl rfl rfl rfl rfl rfl ?_
 refine y6y (zs := (n.views.take j ++ [v]).map (a2c true)) rfl rfl a9v rfl r1r rfl rfl rfl rfl (by rfl) (z7z _ _ _) (by (simp only [a0e, r7r, a0c, a0d, a0r, a2y, b3u, T190]; omega)) ?_
 refine dv 4 ?_
 refine z8z rfl rfl rfl (dv 1 ?_)
 exact ⟨j + 1, ⟨by omega, by omega⟩, [0, _, 0, 0, 0, 0, _, _, _, _], (Cov.cons' (t := 5) rfl (by rw [x9x (by omega) (by omega)]; rfl) Cov.nil), x6x, (HE.row rfl (by rw [z6z hv]) (HE.box rfl rfl (HE.kill rfl (HE.kill rfl (HE.kill rfl (HE.kill rfl HE.nil)))))), x5x, rfl⟩
end
section
theorem c6r (c c' : Bool) (l : La) (s : List Ev) : a0q Tryz.prog 291 [.agg (q7q c l), q2q c' s] (.pv (.bool (kb (b4l l s)))) := by
 refine pX Tryz.f291 [.pv (.bool (kb (b4l l s)))] 1 ?_
 refine dv 1 ?_
 refine y0y (id := 0) rfl rfl rfl (dv 4 fun K K' => ?_)
 refine x0x rfl rfl rfl (a4k ..) (x0x rfl rfl rfl (a4d ..) (dc 1 (aI ?_ ?_)))<;>intro hc2<;>try simp at hc2
 ·try have hX : ¬ a9f okE a2r s 100 = true := by simpa using hc2
  refine dv 3 ?_
  refine x2x rfl ?_ rfl
  exact congrArg (fun b : Bool => [AV.pv (.bool b)]) (a4g (fun h => hX h.1))
 have hA : a9f okE a2r s 100 = true := hc2
 refine dv 5 fun K K' => ?_
 refine u0u 1 rfl fun hlen => ?_
 refine x4x (ι := Nat) (fun i γ1 => [(5, pI (i : Int))]) (fun i γ1 => []) (fun i => i ≤ s.length ∧ c9q s (fun _ e => e.to = l.proc) i) (fun i => s.length - i) (q8q [1, 2] rfl) (u9u 0 rfl HE.nil) 0 ⟨by omega, a1p⟩ [] x6x x5x rfl fun i γ1 hi => ?_
 obtain ⟨h1, h2⟩ := hi
 refine dc 6 (fun K K' => aS ?_ ?_)<;>intro j<;>try simp at j
 ·have hall := a3c h2 (by omega)
  refine dv 4 ?_
  refine x2x rfl ?_ rfl
  exact congrArg (fun b : Bool => [AV.pv (.bool b)]) (e5z ⟨hA, fun e he => by obtain ⟨i, hi⟩ := List.getElem?_of_mem he; exact hall i e hi⟩)
 obtain ⟨e, he⟩ := gE s i
 refine dc 12 (fun K K' => aS ?_ ?_)<;>intro j<;>try simp at j
 ·have hto : e.to = l.proc := by omega
  refine dv 3 ?_
  refine x8x (b := 1) rfl rfl (by omega) (dv 1 ?_)
  exact ⟨i + 1, ⟨⟨by omega, s6s h2 he hto⟩, by omega⟩, [], x6x, x6x, x5x, x5x, rfl⟩
 have hX : ¬ e.to = l.proc := by omega
 refine dv 3 ?_
 refine x2x rfl ?_ rfl
 exact congrArg (fun b : Bool => [AV.pv (.bool b)]) (a4g (fun h => hX (h.2 e (List.mem_of_getElem? he))))
theorem b4z (c c' : Bool) (l : La) (s : List Ev) : a0q Tryz.prog 241 [.agg (q7q c l), q2q c' s] (.tup [.agg (y9y (b3q l s).1), .pv (.bool (b3q l s).2)]) := by
 refine pX Tryz.f241 [.agg (y9y (b3q l s).1), .pv (.bool (b3q l s).2)] 2 ?_
 have hsm := c2t l.done s
 refine dv 1 ?_
 refine y0y (id := 0) rfl rfl rfl (x3x (id := 1) z2z a7v rfl (dv 4 fun K K' => ?_))
 refine x0x rfl rfl rfl (a4l ..) (dc 2 (aS ?_ ?_))<;>intro hg2<;>try simp at hg2
 ·have fX : ¬ (a7q l = true ∧ b4l l s) := fun h => by have := h.1; simp_all
  refine dv 6 ?_
  refine rlB z2z a7v ?_
  refine dv 3 ?_
  (rw [d4t fX]; exact ⟨_, _, rfl, .agg rfl (.cl rfl (.cl rfl (.cl rfl (.cl rfl (.cl rfl (.cl rfl (.cl rfl .nil))))))) (.cl rfl .nil)⟩)
 have fL : a7q l = true := hg2
 refine dv 2 ?_
 refine x0x rfl rfl rfl (c6r ..) (dc 2 (aI ?_ ?_))<;>intro hc3<;>try simp at hc3
 ·have fX : ¬ (a7q l = true ∧ b4l l s) := fun h => a1o (by simpa using hc3) h.2
  refine dv 1 ?_
  refine rlB z2z a7v ?_
  refine dv 3 ?_
  (rw [d4t fX]; exact ⟨_, _, rfl, .agg rfl (.cl rfl (.cl rfl (.cl rfl (.cl rfl (.cl rfl (.cl rfl (.cl rfl .nil))))))) (.cl rfl .nil)⟩)
 have fF : a7q l = true ∧ b4l l s := ⟨fL, a1e.1 (by simpa using hc3)⟩
 refine dv 4 ?_
 refine x0x rfl rfl rfl (b0u ..) (dv 2 fun K K' => ?_)
 refine u0u 1 rfl fun hlen => ?_
 refine dc 7 (aS ?_ ?_)<;>intro j<;>try simp at j
 ·refine dv 6 ?_
  refine rlB z2z a7v ?_
  refine dv 3 ?_
  (rw [c4q fF, f2a (by omega)]; exact ⟨_, _, rfl, .agg rfl (.cl rfl (.cl rfl (.cl rfl (.cl rfl (.cl rfl (.cl rfl (.cl rfl .nil))))))) (.cl rfl .nil)⟩)
 refine dc 5 (aI ?_ ?_)<;>intro j<;>try simp at j
 ·refine dv 1 ?_
  refine rlB z2z a7v ?_
  refine dv 3 ?_
  (rw [c4q fF, f2b (by omega)]; exact ⟨_, _, rfl, .agg rfl (.cl rfl (.cl rfl (.cl rfl (.cl rfl (.cl rfl (.cl rfl (.cl rfl .nil))))))) (.cl rfl .nil)⟩)
 have hlt : same l.done s < s.length := by omega
 obtain ⟨e, he⟩ : ∃ e, s[same l.done s]? = some e := ⟨_, List.getElem?_eq_getElem hlt⟩
 refine dv 5 ?_
 refine v5v (out := .agg (y9y e)) rfl z2z rfl ?_
 refine dv 3 ?_
 (rw [c4q fF, f2c (by omega) he]; exact ⟨_, _, rfl, .agg rfl (.cl rfl (.cl rfl (.cl rfl (.cl rfl (.cl rfl (.cl rfl (.cl rfl .nil))))))) (.cl rfl .nil)⟩)
end
section
theorem a4w (c : Bool) (l : List Ou) (hl : l.length ≤ 1000000) : a0q Tryz.prog 112 [r0r c l] (r0r true (a1k l)) := by
 refine pX Tryz.f112 [r0r true (a1k l)] 6 ?_
 refine dv 3 ?_
 refine y1y (id := 0) a0x rfl w9w rfl (dv 5 fun K K' => ?_)
 refine p8p (l := ([] : List Ou)) (f := q5q) 3 rfl rfl (fun _ => rfl) ?_
 refine x4x (ι := Nat) (fun i γ1 => [(3, r0r true (a1k (l.take i))), (4, pI (i : Int))]) (fun i γ1 => [(1, ((γ1 1), .dead)), (2, ((γ1 2), .dead)), (3, ((γ1 3), .dead)), (4, ((γ1 4), .dead)), (5, ((γ1 5), .dead))]) (fun i => i ≤ l.length) (fun i => l.length - i) (x7x 0 rfl Cov.nil) (u9u 0 rfl HE.nil) 0 (by omega) [0, _, _, _, _, _] (Cov.cons' (t := 3) rfl (by rw [List.take_zero]; rfl) (x7x 4 rfl Cov.nil)) x5x rfl fun i γ1 hi => ?_
 refine dc 6 (fun K K' => aS ?_ ?_)<;>intro h<;>try simp at h
 ·obtain rfl : i = l.length := by omega
  refine dv 5 ?_
  refine x2x rfl ?_ rfl
  exact congrArg (fun l : List Ou => [r0r true l]) (by rw [List.take_length])
 obtain ⟨x, hx⟩ := gE l i
 have hol : (a1k (l.take i)).length ≤ 1000000 := by rw [b5q, List.length_take]; omega
 refine dv 7 fun K K' => ?_
 refine p7p (ι := Nat) (fun k γ2 => [(5, pI (k : Int))]) (fun k γ2 => []) (fun k => k ≤ (a1k (l.take i)).length ∧ (∀ (j : Nat) y, k ≤ j → (a1k (l.take i))[j]? = some y → b3o x y = true) ∧ (∀ y, 0 < k → (a1k (l.take i))[k - 1]? = some y → b3o x y = false)) (q8q [0, 3, 4] rfl) (a0o [0, 1, 2, 3, 4, 5] rfl) ?_ fun k γ2 hi => ?_
 ·refine dv 1 ?_
  refine x4x (ι := Nat) (fun k γ3 => [(5, pI (k : Int))]) (fun k γ3 => []) (fun k => k ≤ (a1k (l.take i)).length ∧ (∀ (j : Nat) y, k ≤ j → (a1k (l.take i))[j]? = some y → b3o x y = true)) (fun k => k) (q8q [0, 3, 4] rfl) (a0o [0, 1, 2, 3, 4, 5] rfl) (a1k (l.take i)).length ⟨Nat.le_refl _, fun j y hj hy => by have := (List.getElem?_eq_some_iff.1 hy).1; omega⟩ [] x6x x5x rfl fun k γ3 hi => ?_
  obtain ⟨k1, k2⟩ := hi
  refine dc 5 (fun K K' => aS ?_ ?_)<;>intro h<;>try simp at h
  ·have k0 : k = 0 := by omega
   refine dv 12 ?_
   exact ⟨k, ⟨k1, k2, fun y2 h0 h2 => by omega⟩, [], x6x, x6x, x5x, x5x, rfl⟩
  have k0 : 0 < k := by omega
  obtain ⟨y, hy⟩ := gE (a1k (l.take i)) (k - 1)
  refine dv 6 ?_
  refine p5p (b := 1) rfl rfl (by omega) (by omega) (dv 2 ?_)
  refine x0x rfl rfl rfl (b6m ..) (dc 1 (aS ?_ ?_))<;>intro hc7<;>try simp at hc7
  ·try have hlt := hc7
   refine dv 1 ?_
   exact ⟨k, ⟨k1, k2, fun y2 h0 h2 => by (rw [hy] at h2; cases h2; exact hlt)⟩, [], x6x, x6x, x5x, x5x, rfl⟩
  try have hlt := hc7
  refine dv 4 ?_
  refine p5p (b := 1) rfl rfl (by omega) (by omega) (dv 1 ?_)
  exact ⟨k - 1, ⟨⟨by omega, fun j y2 hj hy2 => by by_cases hjk : j = k - 1; (subst hjk; rw [hy] at hy2; cases hy2; exact hlt); exact k2 j y2 (by omega) hy2⟩, by omega⟩, [], x6x, x6x, x5x, x5x, rfl⟩
 ·try dsimp only [b1d, b1e]
  obtain ⟨c1, c2, c3⟩ := hi
  have hin := (d4v hx).trans (f2d f5d (e2z _) c2 c3 c1)
  refine dv 1 ?_
  refine y1y (id := 1) a0x rfl w9w rfl (dv 2 ?_)
  refine c2p rfl a0x rfl w9w rfl rfl rfl (by omega) (by omega) (by omega) ?_
  refine w5w (zs := ((a1k (l.take i)).take k).map q5q) rfl rfl a0x rfl w9w rfl rfl rfl (z9z (fun _ => rfl) _) (by simp) (by (simp only [a0e, r7r, a0c, a0d, a0r, b3u, T141]; omega)) ?_
  refine dv 4 ?_
  refine y3y (id := 3) a0x rfl w9w rfl rfl rfl rfl rfl rfl ?_
  refine y6y (zs := ((a1k (l.take i)).take k ++ [x]).map q5q) rfl rfl a0x rfl w9w rfl rfl rfl rfl (by rfl) (z7z _ _ _) (by (simp only [a0e, r7r, a0c, a0d, a0r, b3u, T141]; omega)) ?_
  refine dv 2 ?_
  refine c2p rfl a0x rfl w9w rfl rfl rfl (by omega) (by (rw [List.length_map]; omega)) (by (rw [List.length_map]; omega)) ?_
  refine a2d v4v (zs := ((a1k (l.take i)).take k ++ x :: (a1k (l.take i)).drop k).map q5q) rfl rfl a0x rfl w9w rfl rfl rfl (z9z (fun _ => rfl) _) (by simp) (by (simp only [a0e, r7r, a0c, a0d, a0r, b3u, T141]; omega)) (Le.ow_map _ (fun _ => rfl) (fun _ => rfl)) ?_
  refine dv 3 ?_
  refine x8x (b := 1) rfl rfl (by omega) (dv 1 ?_)
  exact ⟨i + 1, ⟨by omega, by omega⟩, [0, _, _, _, _, _], (Cov.cons' (t := 3) rfl (by rw [hin]; rfl) (x7x 4 rfl Cov.nil)), x6x, x5x, x5x, rfl⟩
end
section
theorem c6s (c : Bool) (l : La) : a0q Tryz.prog 31 [.agg (q7q c l)] (.agg (s1s (f0h l))) := by
 refine pX Tryz.f31 [.agg (s1s (f0h l))] 2 ?_
 refine dv 1 ?_
 refine y0y (id := 0) rfl rfl rfl (x3x (id := 1) a5r d1m rfl (dv 3 fun K K' => ?_))
 refine x0x rfl rfl rfl (a4l ..) (dc 1 (aI ?_ ?_))<;>intro hc2<;>try simp at hc2
 ·have fX : ¬ a7q l = true := by simpa using hc2
  refine dv 1 ?_
  refine rlB a5r d1m ?_
  refine dv 2 ?_
  (rw [f6d fX]; exact b0q rfl rfl rfl rfl)
 have fL : a7q l = true := hc2
 have hl1 := (a3j fL).1
 refine dc 7 (fun K K' => aI ?_ ?_)<;>intro hc4<;>try simp at hc4
 ·have h0 : l.done.length = 0 := by (rw [hc4]; rfl)
  refine dv 2 ?_
  refine y7y (out := .agg (s1s l.base)) rfl a5r rfl rfl ?_
  refine dv 2 ?_
  (rw [f6e fL h0]; exact b0q rfl rfl rfl rfl)
 have h1 : 0 < l.done.length := List.length_pos_iff.2 hc4
 obtain ⟨p, hp⟩ := gE l.done (l.done.length - 1)
 refine dv 7 ?_
 refine p5p (b := 1) rfl rfl (by omega) (by omega) (dv 2 ?_)
 refine v5v (out := .agg (s1s p.after)) rfl a5r rfl ?_
 refine dv 2 ?_
 (rw [f6g fL hp]; exact b0q rfl rfl rfl rfl)
theorem b3i (c : Bool) (l : La) (f t : Nat) (hlen : l.done.length ≤ 1000000) (hf : f ≤ 1000000) (ht : t ≤ 1000000) (hb : ∀ p ∈ l.done, p.sends.length ≤ 1000000 ∧ p.outs.length ≤ 1000000) : Meth Tryz.prog 110 1 [] [.agg (q7q c l), .pv (.int .i64 (f : Int)), .pv (.int .i64 (t : Int))] [(0, (0, .dead))] (.agg [pI l.proc, pI l.base.x, pI l.base.y, pI l.base.count, .ref 0 0]) [(0, (0, .row 58 12 (((a1h l f t).done).map (a0j true))))] := by
 refine mX Tryz.f110 [.agg [pI l.proc, pI l.base.x, pI l.base.y, pI l.base.count, .ref 0 0]] 1 10 fun γ => ?_
 refine dv 1 ?_
 refine y0y (id := 1) rfl rfl rfl (x3x (id := 2) a0l a6o rfl (dv 5 ?_))
 refine rlB a0l a6o ?_
 refine x3x (id := 3) a0l a6o rfl (dv 6 fun K K' => ?_)
 refine a0h 3 4 0 58 12 rfl rfl rfl rfl rfl ?_
 refine x4x (ι := Nat) (fun i γ1 => [(8, pI (i : Int))]) (fun i γ1 => [(0, ((γ1 0), .row 58 12 (((l.done.take i).drop f).map (a0j true)))), (3, ((0 + 1), .box 44 [pI l.proc, pI l.base.x, pI l.base.y, pI l.base.count, .ref 0 (γ1 0)])), (4, ((γ1 4), .dead)), (5, ((γ1 5), .dead)), (6, ((γ1 6), .dead)), (7, ((γ1 7), .dead)), (8, ((γ1 8), .dead)), (9, ((γ1 9), .dead)), (10, ((γ1 10), .dead))]) (fun i => f ≤ i ∧ (i = f ∨ (i ≤ t ∧ i ≤ l.done.length))) (fun i => l.done.length - i) (q8q [2, 3, 6, 7] rfl) (a0o [1, 2] rfl) f ⟨Nat.le_refl _, .inl rfl⟩ [_, 0, 0, 0, _, _, _, _, _, _, _] x6x (HE.row rfl (by rw [List.drop_of_length_le (by rw [List.length_take]; omega)]; rfl) (HE.box rfl rfl (HE.kill rfl (HE.kill rfl (HE.kill rfl (HE.kill rfl (HE.kill rfl (HE.kill rfl (HE.kill rfl HE.nil))))))))) rfl fun i γ1 hi => ?_
 obtain ⟨k1, k2⟩ := hi
 refine dc 6 (fun K K' => aS ?_ ?_)<;>intro j<;>try simp at j
 ·refine dv 6 ?_
  have hfin : (l.done.take i).drop f = (l.done.take t).drop f := c9u k1 k2 (by omega)
  refine dv 5 ?_
  exact ⟨[_], rfl, rfl, HE.row rfl (by rw [hfin]; rfl) HE.nil⟩
 refine dc 6 (aS ?_ ?_)<;>intro j<;>try simp at j
 ·have hfin : (l.done.take i).drop f = (l.done.take t).drop f := c9u k1 k2 (by omega)
  refine dv 5 ?_
  exact ⟨[_], rfl, rfl, HE.row rfl (by rw [hfin]; rfl) HE.nil⟩
 obtain ⟨p, hp⟩ := gE l.done i
 have g1 : i < t := by omega
 obtain ⟨hps, hpo⟩ := hb p (List.mem_of_getElem? hp)
 refine dv 9 fun K K' => ?_
 refine x3x (id := 4) a3p c0o rfl (dv 5 ?_)
 refine y7y (out := .agg (y9y p.ev)) rfl z2z rfl rfl ?_
 refine dv 1 ?_
 refine y7y (out := .agg (s1s p.after)) rfl a5r rfl rfl ?_
 refine y1y (id := 5) u4u rfl z2z rfl (dv 2 ?_)
 refine a2d v4v (zs := (p.sends).map y9y) rfl rfl u4u rfl z2z rfl rfl rfl (z9z (fun _ => rfl) _) rfl (by (simp only [a0e, r7r, a0c, a0d, a0r, a2y, b3u, T56]; omega)) (Le.ow_map _ (fun _ => rfl) (fun _ => rfl)) ?_
 refine y1y (id := 7) a0x rfl w9w rfl (dv 2 ?_)
 refine a2d v4v (zs := (p.outs).map q5q) rfl rfl a0x rfl w9w rfl rfl rfl (z9z (fun _ => rfl) _) rfl (by (simp only [a0e, r7r, a0c, a0d, a0r, a2y, b3u, T141]; omega)) (Le.ow_map _ (fun _ => rfl) (fun _ => rfl)) ?_
 refine rlB a3p c0o ?_
 refine y3y (id := 9) a6n rfl a3p rfl rfl rfl rfl rfl rfl ?_
 refine y6y (zs := ((l.done.take i).drop f ++ [p]).map (a0j true)) rfl rfl a6n rfl a3p rfl rfl rfl rfl (by rfl) (z7z _ _ _) (by (simp only [a0e, r7r, a0c, a0d, a0r, a2y, b3u, T58]; omega)) ?_
 refine dv 4 ?_
 refine x8x (b := 1) rfl rfl (by omega) (dv 1 ?_)
 exact ⟨i + 1, ⟨⟨by omega, .inr ⟨by omega, by omega⟩⟩, by omega⟩, [_, 0, 0, 0, _, _, _, _, _, _, _], x6x, x6x, (HE.row rfl (by rw [z6z hp, List.drop_append_of_le_length (by rw [List.length_take]; omega)]) (HE.box rfl rfl (HE.kill rfl (HE.kill rfl (HE.kill rfl (HE.kill rfl (HE.kill rfl (HE.kill rfl (HE.kill rfl HE.nil))))))))), x5x, rfl⟩
theorem c5l (a : Ap) (l : La) (s : List Ev) (hA : e4i a) (hL : a7q l = true) : MethE Tryz.prog 328 0 [.agg (b9m true a), .agg (q7q true l), q2q true s] [] (ι := La × Bool) (fun S' => S'.2 = true → ∃ p, S'.1 = a2x l p ∧ l.done.length < 100 ∧ paB p) (fun S' => []) (fun S' => .tup [.agg (q7q true S'.1), .pv (.bool (S'.2))]) (fun S' => []) := by
 refine mE (ι := La × Bool) Tryz.f328 (fun S' => [.agg (q7q true S'.1), .pv (.bool (S'.2))]) 0 10 fun γ => ?_
 have hb : ∀ r ∈ a.rules, r.ops.length ≤ 1048576 := fun r hr => by obtain ⟨i, hi⟩ := List.getElem?_of_mem hr; have := (hA.2 i r hi).2.1.2.1; omega
 have hlb := f1w hL
 refine dv 1 ?_
 refine y0y (id := 0) rfl rfl rfl (y0y (id := 1) rfl rfl rfl (x3x (id := 2) a0l a6o rfl (dv 4 ?_)))
 refine x0x rfl rfl rfl (b4z true true l s) (dv 3 ?_)
 refine x3x (id := 3) z2z a7v rfl (dc 7 (fun K K' => aS ?_ ?_))<;>intro hg2<;>try simp at hg2
 ·refine dv 11 fun K K' => ?_
  refine x0x rfl rfl rfl (a4l ..) (dc 1 (aI ?_ ?_))<;>intro hc8<;>try simp at hc8
  ·exact absurd hL (by simpa using hc8)
  refine dv 6 ?_
  refine x0x rfl rfl rfl (a6i true l hlb) (dv 2 ?_)
  skip
  refine dv 1 ?_
  exact ⟨(l, false), (by intro h; simp at h), [], rfl, rfl, x5x⟩
 have hok : (b3q l s).2 = true := hg2
 refine dv 1 ?_
 refine rlB a5y b6a ?_
 refine dv 0 ?_
 refine rlB a5y b6a ?_
 refine dv 0 ?_
 refine rlB a5y b6a ?_
 refine dv 0 ?_
 refine s9s (id := 4) c8u rfl a5y rfl rfl rfl rfl (.val rfl rfl (.val rfl rfl (.val rfl rfl (.val rfl rfl .nil)))) rfl (s0s rfl) (s0s rfl) (s0s rfl) rfl rfl ?_
 refine dv 0 ?_
 refine b4a rfl rfl rfl (.ref rfl (e5i a) .nil) (b0i false (f3z a) (by intro x hx; simp only [f3z, List.mem_cons, List.not_mem_nil, or_false] at hx; rcases hx with rfl | rfl | rfl | rfl <;> first | exact hb | (intro r hr; cases hr))) (.pv _) ?_
 refine dc 2 (aI ?_ ?_)<;>intro j<;>try simp at j
 ·refine dv 3 fun K K' => ?_
  refine x0x rfl rfl rfl (a4l ..) (dc 1 (aI ?_ ?_))<;>intro hc5<;>try simp at hc5
  ·exact absurd hL (by simpa using hc5)
  refine dv 6 ?_
  refine x0x rfl rfl rfl (a6i true l hlb) (dv 2 ?_)
  skip
  refine dv 1 ?_
  exact ⟨(l, false), (by intro h; simp at h), [], rfl, rfl, x5x⟩
 have hroom := e5h hok
 refine dv 1 ?_
 refine d5f 4 (b6g v4v 0 4 rfl rfl ?_)
 refine dv 2 ?_
 refine x0x rfl rfl rfl (c6s true l) (dv 1 ?_)
 refine b6g v4v 9 1 rfl rfl ?_
 refine x3x (id := 5) a5r d1m rfl (b7o c2b (by rfl) [] [] (d0n a (f0h l) (b3q l s).1 hb) rfl rfl rfl rfl (by decide) rfl rfl (by repeat (exact InH.nil)) (fun _ => (by (simp only [pI, a2f, a2h, c0f, gl, nx, a6x, Nat.beq]; rfl))) (fun _ => (by (simp only [pI, a2f, a2h, c0f, gl, nx, a6x, Nat.beq]; rfl))) ⟨⟨0, 0, 0⟩, [], []⟩ ⟨Nat.zero_le _, Nat.zero_le _, fun q h => by cases h⟩ fun r hr => ?_)
 obtain ⟨r1, r2, r3⟩ := hr
 refine b6h v4v 5 4 rfl rfl ?_
 refine dv 4 ?_
 refine b6h v4v 10 3 rfl rfl ?_
 refine dv 3 ?_
 refine c5e (by kernel_rfl) ?_
 refine dv 5 ?_
 refine rlM [9] [_] (b3i true l 0 l.done.length hlb.1 (by omega) hlb.1 hlb.2) rfl rfl rfl ?_
 refine x3x (id := 6) a0l a6o rfl (dv 1 ?_)
 rw [b2r]
 refine dv 6 ?_
 refine x0x rfl rfl rfl (a1z true r.sends (by omega)) ?_
 refine dv 1 ?_
 refine x0x rfl rfl rfl (a4w true r.outs (by omega)) ?_
 refine rlB a3p c0o ?_
 refine y3y (id := 7) a6n rfl a3p rfl rfl rfl rfl rfl rfl ?_
 refine y6y (zs := (l.done ++ [(⟨(b3q l s).1, r.s, z4z r.sends, a1k r.outs⟩ : Pa)]).map (a0j true)) rfl rfl a6n rfl a3p rfl rfl rfl rfl (by rfl) (z7z (a0j true) l.done (⟨(b3q l s).1, r.s, z4z r.sends, a1k r.outs⟩ : Pa)) (by (simp only [a0e, r7r, a0c, a0d, a0r, a2y, b3u, T58]; omega)) ?_
 refine dv 6 ?_
 refine v9v (b := a6e true (l.done ++ [(⟨(b3q l s).1, r.s, z4z r.sends, a1k r.outs⟩ : Pa)])) 2 4 rfl rfl rfl (.ref rfl (Le.ow_map _ (fun _ => rfl) (fun _ => rfl)) .nil) rfl rfl rfl rfl ?_
 refine dv 1 ?_
 exact ⟨(a2x l (⟨(b3q l s).1, r.s, z4z r.sends, a1k r.outs⟩ : Pa), true), (fun _ => ⟨(⟨(b3q l s).1, r.s, z4z r.sends, a1k r.outs⟩ : Pa), rfl, hroom, f3m r1 r2 r3⟩), [], rfl, rfl, x5x⟩
theorem c6t (n : Nd) (q : Int) (hl4 : n.lanes.length ≤ 1000000) : MethE Tryz.prog 327 0 [.agg (u2u true n), .pv (.int .i64 q)] [] (ι := Int) (fun S' => S' = -1 ∨ ∃ (i : Nat) (l : La), S' = (i : Int) ∧ n.lanes[i]? = some l ∧ l.proc = q) (fun S' => []) (fun S' => .pv (.int .i64 S')) (fun S' => []) := by
 refine mE (ι := Int) Tryz.f327 (fun S' => [.pv (.int .i64 S')]) 0 1 fun γ => ?_
 refine dv 1 ?_
 refine y0y (id := 0) rfl rfl rfl (dv 5 fun K K' => ?_)
 refine x4x (ι := Nat) (fun i γ1 => [(5, pI (i : Int))]) (fun i γ1 => []) (fun i => i ≤ n.lanes.length) (fun i => n.lanes.length - i) (q8q [1, 2] rfl) (u9u 0 rfl HE.nil) 0 (by omega) [] x6x x5x rfl fun i γ1 hi => ?_
 refine dc 7 (fun K K' => aS ?_ ?_)<;>intro j<;>try simp at j
 ·refine dv 4 ?_
  exact ⟨-1, .inl rfl, [], rfl, rfl, x5x⟩
 obtain ⟨l, hl⟩ := gE n.lanes i
 refine dc 12 (fun K K' => aI ?_ ?_)<;>intro hc5<;>try simp at hc5
 ·have hq : l.proc = q := hc5
  refine dv 4 ?_
  exact ⟨(i : Int), .inr ⟨i, l, rfl, hl, hq⟩, [], rfl, rfl, x5x⟩
 refine dv 3 ?_
 refine x8x (b := 1) rfl rfl (by omega) (dv 1 ?_)
 exact ⟨i + 1, ⟨by omega, by omega⟩, [], x6x, x6x, x5x, x5x, rfl⟩
end
section
theorem b5a (id : Int) : a0q Tryz.prog 147 [.pv (.int .i64 id)] (.row (.rd true) 44 5 ((q1q id 4).map fun p => q7q true (b4h p))) := by
 refine pX Tryz.f147 [.row (.rd true) 44 5 ((q1q id 4).map fun p => q7q true (b4h p))] 3 ?_
 have hpl := fun k => a6d id k
 refine dv 3 ?_
 refine y1y (id := 0) a7u rfl a0l rfl (dv 5 fun K K' => ?_)
 refine x4x (ι := Nat) (fun i γ1 => [(3, .ref 0 (γ1 0)), (4, pI (i : Int))]) (fun i γ1 => [(0, ((γ1 0), .row 44 5 ((q1q id i).map e3q))), (1, ((γ1 1), .dead)), (2, ((γ1 2), .dead))]) (fun i => i ≤ 4) (fun i => 4 - i) (x7x 0 rfl Cov.nil) HE.nil 0 (by omega) [_, _, _] x6x x5x rfl fun i γ1 hi => ?_
 refine dc 4 (fun K K' => aS ?_ ?_)<;>intro h<;>try simp at h
 ·refine dv 5 ?_
  refine e6q rfl rfl e3r ?_
  have : i = 4 := by omega
  rw [this]
 refine dv 5 fun K K' => ?_
 refine x0x rfl rfl rfl (a0p ..) (dc 2 (aS ?_ ?_))<;>intro h<;>try simp at h
 ·refine dv 3 ?_
  refine z8z rfl rfl rfl (dv 1 ?_)
  exact ⟨i + 1, ⟨by omega, by omega⟩, [_, _, _], (x7x 3 rfl (Cov.cons' (t := 4) rfl (by rw [x9x (by omega) (by omega)]; rfl) Cov.nil)), x6x, (HE.row rfl (by simp only [a8u]; rw [if_neg (by assumption)]) (HE.kill rfl (HE.kill rfl HE.nil))), x5x, rfl⟩
 refine dv 3 ?_
 refine rlB a0l a6o ?_
 refine y3y (id := 1) a7u rfl a0l rfl rfl rfl rfl rfl rfl ?_
 have := hpl i
 refine y6y (zs := (q1q id i ++ [(i : Int)]).map e3q) rfl rfl a7u rfl a0l rfl rfl rfl rfl (by rfl) (z7z _ _ _) (by (simp only [a0e, r7r, a0c, a0d, a0r, a2y, T44]; omega)) ?_
 refine dv 3 ?_
 refine z8z rfl rfl rfl (dv 1 ?_)
 exact ⟨i + 1, ⟨by omega, by omega⟩, [_, _, _], (x7x 3 rfl (Cov.cons' (t := 4) rfl (by rw [x9x (by omega) (by omega)]; rfl) Cov.nil)), x6x, (HE.row rfl (by simp only [a8u]; rw [if_pos (by assumption)]) (HE.kill rfl (HE.kill rfl HE.nil))), x5x, rfl⟩
theorem b7t (c : Bool) (l : La) : a0q Tryz.prog 110 [.agg (q7q c l), .pv (.int .i64 0), .pv (.int .i64 0)] (.agg (q7q true (r5r l))) := by
 refine pX Tryz.f110 [.agg (q7q true (r5r l))] 10 ?_
 refine dv 1 ?_
 refine y0y (id := 0) rfl rfl rfl (x3x (id := 1) a0l a6o rfl (dv 5 ?_))
 refine rlB a0l a6o ?_
 refine x3x (id := 2) a0l a6o rfl (dv 6 fun K K' => ?_)
 refine x4x (ι := Nat) (fun i γ1 => [(8, pI 0)]) (fun i γ1 => [(3, ((γ1 3), .dead)), (4, ((γ1 4), .dead)), (5, ((γ1 5), .dead)), (6, ((γ1 6), .dead)), (7, ((γ1 7), .dead)), (8, ((γ1 8), .dead)), (9, ((γ1 9), .dead))]) (fun i => True) (fun i => 0) (q8q [2, 3, 6, 7] rfl) (a0o [0, 1, 2] rfl) 0 trivial [0, 0, 0, _, _, _, _, _, _, _] x6x x5x rfl fun i γ1 hi => ?_
 refine dv 6 fun K K' => ?_
 refine e6o rfl rfl (fun hg3 => ?_) (fun hg3 => ?_)
 ·simp at hg3
 try simp at hg3
 refine dv 11 ?_
 exact ⟨_, _, rfl, .agg rfl (.cl rfl (.cl rfl (.cl rfl (.cl rfl (.le rfl .nil .nil))))) .nil⟩
theorem c5m (c : Bool) (n : Nd) (hl : n.lanes.length ≤ 1000000000) (hk : n.kept.length ≤ 1000000000) (ho : n.outs.length ≤ 1000000000) : a0q Tryz.prog 155 [.agg (u2u c n)] (.agg (u2u true (a2m n))) := by
 refine pX Tryz.f155 [.agg (u2u true (a2m n))] 16 ?_
 refine dv 1 ?_
 refine y0y (id := 0) rfl rfl rfl (x3x (id := 1) v0v q0q rfl (dv 9 ?_))
 refine y1y (id := 2) u4u rfl z2z rfl (dv 2 ?_)
 refine w5w (zs := n.kept.map y9y) rfl rfl u4u rfl z2z rfl rfl rfl (z9z (fun _ => rfl) _) rfl (by (simp only [a0e, r7r, a0c, a0d, a0r, a2y, T56]; omega)) ?_
 refine y1y (id := 4) a0x rfl w9w rfl (dv 2 ?_)
 refine w5w (zs := n.outs.map q5q) rfl rfl a0x rfl w9w rfl rfl rfl (z9z (fun _ => rfl) _) rfl (by (simp only [a0e, r7r, a0c, a0d, a0r, a2y, T141]; omega)) ?_
 refine dv 2 ?_
 refine rlB v0v q0q ?_
 refine x3x (id := 6) v0v q0q rfl (dv 5 fun K K' => ?_)
 refine a0h 6 4 13 44 5 rfl rfl rfl rfl rfl ?_
 refine x4x (ι := Nat) (fun i γ1 => [(4, pI (i : Int))]) (fun i γ1 => [(13, ((γ1 13), .row 44 5 (((n.lanes.take i).map r5r).map (q7q true)))), (6, ((0 + 1), .box 65 [pI n.id, .pv (.bool n.up), pI n.inc, pI n.g, .ref 13 (γ1 13), .ref 2 2, .ref 4 2, pI n.led, pI 0, .pv (.slice none 0 0), .pv (.slice none 0 0), pI 0, pI 41])), (7, ((γ1 7), .dead)), (8, ((γ1 8), .dead))]) (fun i => i ≤ n.lanes.length) (fun i => n.lanes.length - i) (q8q [1, 2, 3] rfl) (a0o [0, 1, 2, 3, 4, 5, 9, 10, 11, 12, 14, 15] rfl) 0 (by omega) [0, 0, 0, 0, 0, 0, 0, _, _, 0, 0, 0, 0, _] x6x (HE.row rfl (by rw [List.take_zero]; rfl) (HE.box rfl rfl (HE.kill rfl (HE.kill rfl HE.nil)))) rfl fun i γ1 hi => ?_
 refine dc 7 (fun K K' => aI ?_ ?_)<;>intro h<;>try simp at h
 ·refine dv 9 fun K K' => ?_
  obtain ⟨a, ha⟩ := gE n.lanes i
  refine dv 2 ?_
  refine x0x rfl rfl rfl (b7t c a) (y3y (id := 7) a7u rfl a0l rfl rfl rfl rfl rfl rfl ?_)
  refine y6y (zs := ((n.lanes.take i).map r5r ++ [r5r a]).map (q7q true)) rfl rfl a7u rfl a0l rfl rfl rfl rfl (by rfl) (z7z _ _ _) (by (simp only [a0e, r7r, a0c, a0d, a0r, a2y, T44]; omega)) ?_
  refine dv 4 ?_
  refine z8z rfl rfl rfl (dv 1 ?_)
  exact ⟨i + 1, ⟨by omega, by omega⟩, [0, 0, 0, 0, 0, 0, 0, _, _, 0, 0, 0, 0, _], (Cov.cons' (t := 4) rfl (by rw [x9x (by omega) (by omega)]; rfl) Cov.nil), x6x, (HE.row rfl (by simp only [z6z ha, List.map_append, List.map_cons, List.map_nil]) (HE.box rfl rfl (HE.kill rfl (HE.kill rfl HE.nil)))), x5x, rfl⟩
 obtain rfl : i = n.lanes.length := by omega
 refine dv 5 fun K K' => ?_
 refine a0h 6 9 14 190 3 rfl rfl rfl rfl rfl (a0h 6 10 15 3 1 rfl rfl rfl rfl rfl ?_)
 refine x4x (ι := Nat) (fun i γ2 => [(5, pI (i : Int))]) (fun i γ2 => [(14, ((γ2 14), .row 190 3 ((List.range i).map fun _ => b3g))), (15, ((γ2 15), .row 3 1 ((List.range i).map fun _ => a2w 0))), (6, ((0 + 1), .box 65 [pI n.id, .pv (.bool n.up), pI n.inc, pI n.g, .ref 13 (γ1 13), .ref 2 2, .ref 4 2, pI n.led, pI 0, .ref 14 (γ2 14), .ref 15 (γ2 15), pI 0, pI 41])), (9, ((γ2 9), .dead)), (10, ((γ2 10), .dead)), (11, ((γ2 11), .dead)), (12, ((γ2 12), .dead))]) (fun i => i ≤ 3) (fun i => 3 - i) (q8q [2, 3] rfl) (a0o [0, 1, 2, 3, 4, 5, 7, 8, 13] rfl) 0 (by omega) [0, 0, 0, 0, 0, 0, 0, 0, 0, _, _, _, _, 0, _, _] x6x x5x rfl fun i γ2 hi => ?_
 refine dc 4 (fun K K' => aS ?_ ?_)<;>intro h<;>try simp at h
 ·obtain rfl : i = 3 := by omega
  rw [List.take_length]
  refine dv 5 ?_
  exact ⟨_, _, rfl, .agg rfl (.cl rfl (.cl rfl (.cl rfl (.cl rfl (.ref rfl (Le.ow_map _ (fun _ => rfl) (fun _ => rfl)) (.ref rfl (Le.ow_map _ (fun _ => rfl) (fun _ => rfl)) (.ref rfl (Le.ow_map _ (fun _ => rfl) (fun _ => rfl)) (.cl rfl (.cl rfl (.ref rfl (Le.ow_map2 (f := fun _ => b3g) (f' := fun _ => a2c true vi0) (List.range 3) (fun _ => rfl) (fun _ => .cons (.cl rfl) (.cons (.cl rfl) (.cons .nil .nil)))) (.ref rfl (Le.ow_map (f := fun _ => a2w 0) (List.range 3) (fun _ => rfl) (fun _ => rfl)) (.cl rfl (.cl rfl .nil))))))))))))) .nil⟩
 refine dv 6 fun K K' => ?_
 refine rlB r1r a4s ?_
 refine y3y (id := 9) a9v rfl r1r rfl rfl rfl rfl rfl rfl ?_
 refine y6y (zs := (List.range i).map (fun _ => b3g) ++ [b3g]) rfl rfl a9v rfl r1r rfl rfl rfl rfl (by rfl) rfl (by (simp only [a0e, r7r, a0c, a0d, a0r, a2y, T190]; omega)) ?_
 refine dv 5 ?_
 refine a8y (id := 11) a0n rfl s3s rfl rfl rfl rfl rfl ?_
 refine y6y (zs := (List.range i).map (fun _ => a2w 0) ++ [a2w 0]) rfl rfl a0n rfl s3s rfl rfl rfl rfl (by rfl) rfl (by (simp only [a0e, r7r, a0c, a0d, a0r, a2y, T3]; omega)) ?_
 refine dv 4 ?_
 refine z8z rfl rfl rfl (dv 1 ?_)
 exact ⟨i + 1, ⟨by omega, by omega⟩, [0, 0, 0, 0, 0, 0, 0, 0, 0, _, _, _, _, 0, _, _], (Cov.cons' (t := 5) rfl (by rw [x9x (by omega) (by omega)]; rfl) Cov.nil), x6x, (HE.row rfl (by rw [List.range_succ, List.map_append]; rfl) (HE.row rfl (by rw [List.range_succ, List.map_append]; rfl) (HE.box rfl rfl (HE.kill rfl (HE.kill rfl (HE.kill rfl (HE.kill rfl HE.nil))))))), x5x, rfl⟩
theorem c2f (id : Int) : a0q Tryz.prog 89 [.pv (.int .i64 id)] (.agg (u2u true (a2l id))) := by
 refine pX Tryz.f89 [.agg (u2u true (a2l id))] 5 ?_
 have hpl := a6d id 4
 refine dv 1 ?_
 refine x3x (id := 0) v0v q0q rfl (dv 3 fun K K' => ?_)
 refine x0x rfl rfl rfl (z1z ..) (dc 1 (aI ?_ ?_))<;>intro hc2<;>try simp at hc2
 ·have hns : a2l id = nd0 := if_neg (by omega)
  refine dv 1 ?_
  refine rlB v0v q0q ?_
  refine dv 2 ?_
  exact ⟨_, _, rfl, .agg rfl (by rw [hns]; exact .cl rfl (.cl rfl (.cl rfl (.cl rfl (.le rfl .nil (.le rfl .nil (.le rfl .nil (.cl rfl (.cl rfl (.le rfl .nil (.le rfl .nil (.cl rfl (.cl rfl .nil))))))))))))) .nil⟩
 have hin : 0 ≤ id ∧ id ≤ 2 := hc2
 have hns : a2l id = ⟨id, true, 1, 0, (q1q id 4).map b4h, z4z ((q1q id 4).map a1t), [], 0, 1, [vi0, vi0, vi0], [0, 0, 0], 0, 41⟩ := if_pos hin
 have hnb : ({ a2m ⟨id, true, 1, 0, (q1q id 4).map b4h, (q1q id 4).map a1t, [], 0, 0, [], [], 0, 0⟩ with version := 1 } : Nd) = a2l id := by rw [hns, c4g hin]; simp only [a2m, List.map_map]; rfl
 refine dv 4 ?_
 refine x0x rfl rfl rfl (b5a ..) (rlB v0v q0q ?_)
 refine x3x (id := 1) v0v q0q rfl (dv 5 fun K K' => ?_)
 refine a0h 1 5 4 56 7 rfl rfl rfl rfl rfl ?_
 refine x4x (ι := Nat) (fun i γ1 => [(4, pI (i : Int))]) (fun i γ1 => [(4, ((γ1 4), .row 56 7 ((((q1q id 4).take i).map a1t).map y9y))), (1, ((0 + 1), .box 65 [pI id, .pv (.bool true), pI 1, pI 0, .row (.rd true) 44 5 ((q1q id 4).map fun p => q7q true (b4h p)), .ref 4 (γ1 4), .pv (.slice none 0 0), pI 0, pI 0, .pv (.slice none 0 0), .pv (.slice none 0 0), pI 0, pI 0])), (2, ((γ1 2), .dead)), (3, ((γ1 3), .dead))]) (fun i => i ≤ (q1q id 4).length) (fun i => (q1q id 4).length - i) (q8q [2, 3] rfl) (u9u 0 rfl HE.nil) 0 (by omega) [0, 0, _, _, _] x6x (HE.row rfl (by rw [List.take_zero]; rfl) (HE.box rfl rfl (HE.kill rfl (HE.kill rfl HE.nil)))) rfl fun i γ1 hi => ?_
 refine dc 7 (fun K K' => aS ?_ ?_)<;>intro h<;>try simp at h
 ·obtain rfl : i = (q1q id 4).length := by omega
  rw [List.take_length]
  refine dv 1 ?_
  refine v9v (b := q2q true ((q1q id 4).map a1t)) 1 5 rfl rfl rfl (.ref rfl (Le.ow_map _ (fun _ => rfl) (fun _ => rfl)) .nil) rfl rfl rfl rfl ?_
  refine v9v (b := r0r true []) 1 6 rfl rfl rfl (.le rfl .nil .nil) rfl rfl rfl rfl ?_
  refine v9v (b := c1z true []) 1 9 rfl rfl rfl (.le rfl .nil .nil) rfl rfl rfl rfl ?_
  refine v9v (b := a4p true []) 1 10 rfl rfl rfl (.le rfl .nil .nil) rfl rfl rfl rfl ?_
  rw [show (AV.row (.rd true) 44 5 ((q1q id 4).map fun p => q7q true (b4h p))) = c0g true ((q1q id 4).map b4h) from by rw [c0g, List.map_map]; rfl]
  refine dv 2 ?_
  refine x0x rfl rfl rfl (c5m true ⟨id, true, 1, 0, (q1q id 4).map b4h, (q1q id 4).map a1t, [], 0, 0, [], [], 0, 0⟩ (by rw [List.length_map]; omega) (by rw [List.length_map]; omega) (by simp)) ?_
  refine dv 8 ?_
  exact b0q (cs := u2u true { a2m ⟨id, true, 1, 0, (q1q id 4).map b4h, (q1q id 4).map a1t, [], 0, 0, [], [], 0, 0⟩ with version := 1 }) rfl (by rw [hnb]) rfl rfl
 obtain ⟨p, hp⟩ := gE (q1q id 4) i
 refine dv 12 fun K K' => ?_
 refine x0x rfl rfl rfl (c5j ..) (y3y (id := 2) u4u rfl z2z rfl rfl rfl rfl rfl rfl ?_)
 refine y6y (zs := (((q1q id 4).take i).map a1t ++ [a1t p]).map y9y) rfl rfl u4u rfl z2z rfl rfl rfl rfl (by rfl) (z7z _ _ _) (by (simp only [a0e, r7r, a0c, a0d, a0r, a2y, T56]; omega)) ?_
 refine dv 4 ?_
 refine z8z rfl rfl rfl (dv 1 ?_)
 exact ⟨i + 1, ⟨by omega, by omega⟩, [0, 0, _, _, _], (Cov.cons' (t := 4) rfl (by rw [x9x (by omega) (by omega)]; rfl) Cov.nil), x6x, (HE.row rfl (by simp only [z6z hp, List.map_append, List.map_cons, List.map_nil]) (HE.box rfl rfl (HE.kill rfl (HE.kill rfl HE.nil)))), x5x, rfl⟩
end
section
theorem c2g (c : Bool) (n : Nd) : a0q Tryz.prog 233 [.agg (u2u c n)] (.pv (.bool (decide (a9g n)))) := by
 refine pX Tryz.f233 [.pv (.bool (decide (a9g n)))] 1 ?_
 refine dv 1 ?_
 refine y0y (id := 0) rfl rfl rfl (dv 4 ?_)
 refine x0x rfl rfl rfl (b9o ..) (dc 1 (aS ?_ ?_))<;>intro u<;>try simp at u
 ·refine dv 30 ?_
  refine x2x rfl ?_ rfl
  exact kF (by unfold a9g; omega)
 refine dv 2 ?_
 refine x0x rfl rfl rfl (u6u ..) (dc 2 (aS ?_ ?_))<;>intro u<;>try simp at u
 ·refine dv 25 ?_
  refine x2x rfl ?_ rfl
  exact kF (by unfold a9g; omega)
 refine dv 2 ?_
 refine x0x rfl rfl rfl (u6u ..) (dc 2 (aS ?_ ?_))<;>intro u<;>try simp at u
 ·refine dv 20 ?_
  refine x2x rfl ?_ rfl
  exact kF (by unfold a9g; omega)
 refine dv 2 ?_
 refine x0x rfl rfl rfl (u6u ..) (dc 2 (aS ?_ ?_))<;>intro u<;>try simp at u
 ·refine dv 15 ?_
  refine x2x rfl ?_ rfl
  exact kF (by unfold a9g; omega)
 refine dv 2 ?_
 refine x0x rfl rfl rfl (u6u ..) (dc 2 (aS ?_ ?_))<;>intro u<;>try simp at u
 ·refine dv 10 ?_
  refine x2x rfl ?_ rfl
  exact kF (by unfold a9g; omega)
 refine dv 2 ?_
 refine x0x rfl rfl rfl (u6u ..) (dc 2 (aS ?_ ?_))<;>intro u<;>try simp at u
 ·refine dv 5 ?_
  refine x2x rfl ?_ rfl
  exact kF (by unfold a9g; omega)
 refine dv 2 ?_
 refine x0x rfl rfl rfl (u6u ..) (dv 3 ?_)
 refine x2x rfl ?_ rfl
 exact congrArg (fun b : Bool => [AV.pv (.bool b)]) (decide_eq_decide.2 (by unfold a9g; omega))
theorem u7u  : a0q Tryz.prog 143 [] (.pv (.int .i64 9999)) := by
 refine pX Tryz.f143 [.pv (.int .i64 9999)] 0 ?_
 refine dv 5 ?_
 exact x2x rfl rfl rfl
theorem b3j (c : Bool) (v : Vi) : a0q Tryz.prog 168 [.agg (a2c c v)] (.pv (.bool (kb (d6w v)))) := by
 refine pX Tryz.f168 [.pv (.bool (kb (d6w v)))] 1 ?_
 refine dv 1 ?_
 refine y0y (id := 0) rfl rfl rfl (dv 4 ?_)
 refine x0x rfl rfl rfl (u7u ..) (x0x rfl rfl rfl (z1z ..) (dc 1 (aS ?_ ?_)))<;>intro u<;>try simp at u
 ·refine dv 12 ?_
  refine x2x rfl ?_ rfl
  exact congrArg (fun b : Bool => [AV.pv (.bool b)]) (a4g (fun h => by obtain ⟨q1, q2, q3⟩ := h; omega))
 refine dv 2 ?_
 refine x0x rfl rfl rfl (u7u ..) (dv 0 ?_)
 refine x0x rfl rfl rfl (z1z ..) (dc 2 (aS ?_ ?_))<;>intro u<;>try simp at u
 ·refine dv 6 ?_
  refine x2x rfl ?_ rfl
  exact congrArg (fun b : Bool => [AV.pv (.bool b)]) (a4g (fun h => by obtain ⟨q1, q2, q3⟩ := h; omega))
 refine dv 2 ?_
 refine x0x rfl rfl rfl (a4k ..) (dv 0 ?_)
 refine x0x rfl rfl rfl (a4d ..) (dv 3 ?_)
 refine x2x rfl ?_ rfl
 exact congrArg (fun b : Bool => [AV.pv (.bool b)]) (e7j ⟨fun h => ⟨by omega, by omega, h⟩, fun h => h.2.2⟩)
theorem c5n (c : Bool) (n : Nd) : a0q Tryz.prog 146 [.agg (u2u c n)] (.pv (.bool (kb (c9p n)))) := by
 refine pX Tryz.f146 [.pv (.bool (kb (c9p n)))] 1 ?_
 refine dv 1 ?_
 refine y0y (id := 0) rfl rfl rfl (dc 8 (fun K K' => aS ?_ ?_))<;>intro u<;>try simp at u
 ·refine dv 28 ?_
  refine x2x rfl ?_ rfl
  exact congrArg (fun b : Bool => [AV.pv (.bool b)]) (a4g (fun h => by obtain ⟨q1, q2, q3, q4, q5, q6⟩ := h; omega))
 refine dc 6 (aS ?_ ?_)<;>intro u<;>try simp at u
 ·refine dv 22 ?_
  refine x2x rfl ?_ rfl
  exact congrArg (fun b : Bool => [AV.pv (.bool b)]) (a4g (fun h => by obtain ⟨q1, q2, q3, q4, q5, q6⟩ := h; omega))
 refine dv 2 ?_
 refine x0x rfl rfl rfl (u7u ..) (dv 0 ?_)
 refine x0x rfl rfl rfl (z1z ..) (dc 3 (aS ?_ ?_))<;>intro u<;>try simp at u
 ·refine dv 15 ?_
  refine x2x rfl ?_ rfl
  exact congrArg (fun b : Bool => [AV.pv (.bool b)]) (a4g (fun h => by obtain ⟨q1, q2, q3, q4, q5, q6⟩ := h; omega))
 refine dv 2 ?_
 refine x0x rfl rfl rfl (u7u ..) (dv 0 ?_)
 refine x0x rfl rfl rfl (z1z ..) (dc 3 (aS ?_ ?_))<;>intro u<;>try simp at u
 ·refine dv 8 ?_
  refine x2x rfl ?_ rfl
  exact congrArg (fun b : Bool => [AV.pv (.bool b)]) (a4g (fun h => by obtain ⟨q1, q2, q3, q4, q5, q6⟩ := h; omega))
 refine dv 2 ?_
 refine x0x rfl rfl rfl (z1z ..) (dc 2 (aI ?_ ?_))<;>intro u<;>try simp at u
 ·refine dv 3 ?_
  refine x2x rfl ?_ rfl
  exact congrArg (fun b : Bool => [AV.pv (.bool b)]) (a4g (fun h => by obtain ⟨q1, q2, q3, q4, q5, q6⟩ := h; omega))
 have hL : n.views.length = 3 ∧ n.known.length = 3 ∧ (0 ≤ n.version ∧ n.version ≤ 9999) ∧ (0 ≤ n.round ∧ n.round ≤ 9999) ∧ (0 ≤ n.low ∧ n.low ≤ 41) := by omega
 refine dv 5 fun K K' => ?_
 refine x4x (ι := Nat) (fun i γ1 => [(3, pI (i : Int))]) (fun i γ1 => []) (fun i => i ≤ 3 ∧ c9q n.views (fun j v => ∀ k, n.known[j]? = some k → d6w v ∧ 0 ≤ k ∧ k ≤ 41) i) (fun i => 3 - i) (x7x 1 rfl Cov.nil) (u9u 0 rfl HE.nil) 0 ⟨by omega, a1p⟩ [] x6x x5x rfl fun i γ1 hi => ?_
 obtain ⟨h1, h2⟩ := hi
 refine dc 4 (fun K K' => aS ?_ ?_)<;>intro u<;>try simp at u
 ·obtain rfl : i = 3 := by omega
  refine dv 4 ?_
  refine x2x rfl ?_ rfl
  exact congrArg (fun b : Bool => [AV.pv (.bool b)]) (e5z ⟨hL.1, hL.2.1, hL.2.2.1, hL.2.2.2.1, hL.2.2.2.2, fun i v k a b => a3c h2 (by omega) i v a k b⟩)
 obtain ⟨v, hv⟩ := gE n.views i
 obtain ⟨k, hk⟩ := gE n.known i
 refine dv 9 fun K K' => ?_
 refine x0x rfl rfl rfl (b3j ..) (dc 2 (aS ?_ ?_))<;>intro hg11<;>try simp at hg11
 ·have hbad : ¬ d6w v := a1o (by simpa using hg11)
  refine dv 11 ?_
  refine x2x rfl ?_ rfl
  exact congrArg (fun b : Bool => [AV.pv (.bool b)]) (a4g (fun h => hbad (h.2.2.2.2.2 _ _ _ hv hk).1))
 have hvo : d6w v := a1e.1 (by simpa using hg11)
 refine dv 5 ?_
 refine x0x rfl rfl rfl (z1z ..) (dc 2 (aS ?_ ?_))<;>intro u<;>try simp at u
 ·refine dv 3 ?_
  refine x8x (b := 1) rfl rfl (by omega) (dv 1 ?_)
  exact ⟨i + 1, ⟨⟨by omega, s6s h2 hv (fun k2 hk2 => by rw [hk] at hk2; cases hk2; exact ⟨hvo, by omega⟩)⟩, by omega⟩, [], x6x, x6x, x5x, x5x, rfl⟩
 refine dv 3 ?_
 refine x2x rfl ?_ rfl
 exact congrArg (fun b : Bool => [AV.pv (.bool b)]) (a4g (fun h => by have := (h.2.2.2.2.2 _ _ _ hv hk).2; omega))
theorem c6u (c : Bool) (n : Nd) : a0q Tryz.prog 129 [.agg (u2u c n)] (.pv (.bool (kb (a0u n)))) := by
 refine pX Tryz.f129 [.pv (.bool (kb (a0u n)))] 4 ?_
 refine dv 1 ?_
 refine y0y (id := 0) rfl rfl rfl (dv 4 fun K K' => ?_)
 refine x0x rfl rfl rfl (c2g ..) (dc 2 (aS ?_ ?_))<;>intro hg2<;>try simp at hg2
 ·have hX : ¬ a9g n := hg2
  refine dv 14 ?_
  refine x2x rfl ?_ rfl
  exact congrArg (fun b : Bool => [AV.pv (.bool b)]) (a4g (fun h => by obtain ⟨q1, q2, q3, q4, q5, q6, q7, q8, q9⟩ := h; exact hX q1))
 have hA1 : a9g n := hg2
 refine dv 2 ?_
 refine x0x rfl rfl rfl (a6g ..) (dc 3 (aS ?_ ?_))<;>intro hg3<;>try simp at hg3
 ·have hX : ¬ a9f okE a2r n.kept 100 = true := by simpa using hg3
  refine dv 8 ?_
  refine x2x rfl ?_ rfl
  exact congrArg (fun b : Bool => [AV.pv (.bool b)]) (a4g (fun h => by obtain ⟨q1, q2, q3, q4, q5, q6, q7, q8, q9⟩ := h; exact hX q2))
 have hA2 : a9f okE a2r n.kept 100 = true := hg3
 refine dv 2 ?_
 refine x0x rfl rfl rfl (b9p ..) (dc 2 (aI ?_ ?_))<;>intro hc4<;>try simp at hc4
 ·try have hX : ¬ a9f okO b3o n.outs 96 = true := by simpa using hc4
  refine dv 3 ?_
  refine x2x rfl ?_ rfl
  exact congrArg (fun b : Bool => [AV.pv (.bool b)]) (a4g (fun h => by obtain ⟨q1, q2, q3, q4, q5, q6, q7, q8, q9⟩ := h; exact hX q3))
 have hA3 : a9f okO b3o n.outs 96 = true := hc4
 refine dv 8 fun K K' => ?_
 refine u0u 27 rfl fun hlen0 => ?_
 refine x4x (ι := Nat) (fun i γ1 => [(29, pI (i : Int))]) (fun i γ1 => [(1, ((γ1 1), .dead))]) (fun i => i ≤ n.outs.length ∧ c9q n.outs (fun _ o => o.time < n.g) i) (fun i => n.outs.length - i) (q8q [1, 27, 28] rfl) (a0o [0, 2, 3] rfl) 0 ⟨by omega, a1p⟩ [0, _] x6x x5x rfl fun i γ1 hi => ?_
 obtain ⟨a1, a2⟩ := hi
 refine dc 3 (fun K K' => aI ?_ ?_)<;>intro u<;>try simp at u
 ·obtain ⟨o, ho⟩ := gE n.outs i
  refine dv 6 fun K K' => ?_
  refine x3x (id := 1) w9w c7r rfl (dc 7 (aS ?_ ?_))<;>intro u<;>try simp at u
  ·have hlt : o.time < n.g := by omega
   refine dv 2 ?_
   refine x8x (b := 1) rfl rfl (by omega) (dv 1 ?_)
   exact ⟨i + 1, ⟨⟨by omega, s6s a2 ho hlt⟩, by omega⟩, [0, _], x6x, x6x, x5x, x5x, rfl⟩
  have hX : ¬ o.time < n.g := by omega
  refine dv 3 ?_
  refine x2x rfl ?_ rfl
  exact congrArg (fun b : Bool => [AV.pv (.bool b)]) (a4g (fun h => by obtain ⟨q1, q2, q3, q4, q5, q6, q7, q8, q9⟩ := h; exact hX (q4 _ _ ho)))
 have hO : ∀ (i : Nat) o, n.outs[i]? = some o → o.time < n.g := a3c a2 (by omega)
 refine dv 4 ?_
 refine x0x rfl rfl rfl (a7b ..) (dc 10 (fun K K' => aS ?_ ?_))<;>intro u<;>try simp at u
 ·refine dv 14 ?_
  refine x2x rfl ?_ rfl
  exact congrArg (fun b : Bool => [AV.pv (.bool b)]) (a4g (fun h => by obtain ⟨q1, q2, q3, q4, q5, q6, q7, q8, q9⟩ := h; omega))
 refine dc 6 (aS ?_ ?_)<;>intro u<;>try simp at u
 ·refine dv 8 ?_
  refine x2x rfl ?_ rfl
  exact congrArg (fun b : Bool => [AV.pv (.bool b)]) (a4g (fun h => by obtain ⟨q1, q2, q3, q4, q5, q6, q7, q8, q9⟩ := h; omega))
 refine dc 5 (aI ?_ ?_)<;>intro u<;>try simp at u
 ·refine dv 3 ?_
  refine x2x rfl ?_ rfl
  exact congrArg (fun b : Bool => [AV.pv (.bool b)]) (a4g (fun h => by obtain ⟨q1, q2, q3, q4, q5, q6, q7, q8, q9⟩ := h; omega))
 have hL : n.lanes.length = (q1q n.id 4).length ∧ n.views.length = 3 ∧ n.known.length = 3 := by omega
 refine dv 8 fun K K' => ?_
 refine u0u 61 rfl fun hlen1 => ?_
 refine x4x (ι := Nat) (fun j γ2 => [(63, pI (j : Int))]) (fun j γ2 => [(2, ((γ2 2), .dead))]) (fun j => j ≤ n.lanes.length ∧ c9q n.lanes (fun j l => (q1q n.id 4)[j]? = some l.proc ∧ a7q l = true) j) (fun j => n.lanes.length - j) (q8q [1, 5, 61, 62] rfl) (a0o [0, 1, 3] rfl) 0 ⟨by omega, a1p⟩ [0, 0, _] x6x x5x rfl fun j γ2 hi => ?_
 obtain ⟨b1, b2⟩ := hi
 refine dc 3 (fun K K' => aI ?_ ?_)<;>intro u<;>try simp at u
 ·obtain ⟨l, hl⟩ := gE n.lanes j
  obtain ⟨q, hq⟩ := gE (q1q n.id 4) j
  refine dv 7 fun K K' => ?_
  refine x3x (id := 2) a0l a6o rfl (dc 11 (aS ?_ ?_))<;>intro hg18<;>try simp at hg18
  ·have hX : ¬ l.proc = q := hg18
   refine dv 7 ?_
   refine x2x rfl ?_ rfl
   exact congrArg (fun b : Bool => [AV.pv (.bool b)]) (a4g (fun h => by obtain ⟨q1, q2, q3, q4, q5, q6, q7, q8, q9⟩ := h; have := (q8 _ _ hl).1; rw [hq] at this; exact hX (Option.some.inj this).symm))
  have hpe : l.proc = q := hg18
  refine dv 1 ?_
  refine x0x rfl rfl rfl (d0p ..) (dc 2 (aS ?_ ?_))<;>intro hc19<;>try simp at hc19
  ·have hlo : a7q l = true := hc19
   refine dv 2 ?_
   refine x8x (b := 1) rfl rfl (by omega) (dv 1 ?_)
   exact ⟨j + 1, ⟨⟨by omega, s6s b2 hl ⟨by rw [hq, hpe], hlo⟩⟩, by omega⟩, [0, 0, _], x6x, x6x, x5x, x5x, rfl⟩
  try have hX : ¬ a7q l = true := by simpa using hc19
  refine dv 3 ?_
  refine x2x rfl ?_ rfl
  exact congrArg (fun b : Bool => [AV.pv (.bool b)]) (a4g (fun h => by obtain ⟨q1, q2, q3, q4, q5, q6, q7, q8, q9⟩ := h; exact hX (q8 _ _ hl).2))
 have hN : e7k n := a3c b2 (by omega)
 refine dv 8 fun K K' => ?_
 refine u0u 82 rfl fun hlen2 => ?_
 refine x4x (ι := Nat) (fun k γ3 => [(84, pI (k : Int))]) (fun k γ3 => [(3, ((γ3 3), .dead))]) (fun k => k ≤ n.views.length ∧ c9q n.views (fun j v => ∀ k, n.known[j]? = some k → d6w v ∧ 0 ≤ k ∧ k ≤ 41) k) (fun k => n.views.length - k) (q8q [1, 82, 83] rfl) (a0o [0, 1, 2] rfl) 0 ⟨by omega, a1p⟩ [0, 0, 0, _] x6x x5x rfl fun k γ3 hi => ?_
 obtain ⟨c1, c2⟩ := hi
 refine dc 3 (fun K K' => aS ?_ ?_)<;>intro u<;>try simp at u
 ·have hV : e2r n := fun i v k0 a b => a3c c2 (by omega) i v a k0 b
  refine dv 4 ?_
  refine x2x rfl ?_ rfl
  exact congrArg (fun b : Bool => [AV.pv (.bool b)]) (e5z ⟨hA1, hA2, hA3, hO, hL.1, hL.2.1, hL.2.2, hN, hV⟩)
 obtain ⟨v, hv⟩ := gE n.views k
 obtain ⟨k0, hk⟩ := gE n.known k
 refine dv 7 fun K K' => ?_
 refine x3x (id := 3) r1r a4s rfl (dv 2 ?_)
 refine p7p (ι := Unit) (fun _i γ4 => [(10, .pv (.bool (kb (d6w v))))]) (fun _i γ4 => []) (fun _i => True) (q8q [1, 8, 82, 83, 84] rfl) (a0o [0, 1, 2, 3] rfl) ?_ fun _i γ4 hi => ?_
 ·refine dv 3 ?_
  refine x0x rfl rfl rfl (u6u ..) (dc 1 (aS ?_ ?_))<;>intro u<;>try simp at u
  ·refine dv 9 ?_
   exact ⟨(), trivial, [], (Cov.cons' (t := 10) rfl (by exact congrArg (fun b : Bool => AV.pv (.bool b)) (a4g (fun h => by obtain ⟨q1, q2, q3⟩ := h; omega))) Cov.nil), x6x, x5x, x5x, rfl⟩
  refine dv 2 ?_
  refine x0x rfl rfl rfl (u6u ..) (dc 2 (aS ?_ ?_))<;>intro u<;>try simp at u
  ·refine dv 4 ?_
   exact ⟨(), trivial, [], (Cov.cons' (t := 10) rfl (by exact congrArg (fun b : Bool => AV.pv (.bool b)) (a4g (fun h => by obtain ⟨q1, q2, q3⟩ := h; omega))) Cov.nil), x6x, x5x, x5x, rfl⟩
  refine dv 2 ?_
  refine x0x rfl rfl rfl (a6g ..) (dv 2 ?_)
  exact ⟨(), trivial, [], (Cov.cons' (t := 10) rfl (congrArg (fun b : Bool => AV.pv (.bool b)) (e7j ⟨fun h => ⟨by omega, by omega, h⟩, fun h => h.2.2⟩)) Cov.nil), x6x, x5x, x5x, rfl⟩
 ·try dsimp only [b1d, b1e]
  refine dc 4 (aS ?_ ?_)<;>intro hg27<;>try simp at hg27
  ·have hX : ¬ d6w v := a1o (by simpa using hg27)
   refine dv 11 ?_
   refine x2x rfl ?_ rfl
   exact congrArg (fun b : Bool => [AV.pv (.bool b)]) (a4g (fun h => by obtain ⟨q1, q2, q3, q4, q5, q6, q7, q8, q9⟩ := h; exact hX (q9 _ _ _ hv hk).1))
  have hvo : d6w v := a1e.1 (by simpa using hg27)
  refine dv 5 ?_
  refine x0x rfl rfl rfl (u6u ..) (dc 2 (aS ?_ ?_))<;>intro u<;>try simp at u
  ·refine dv 2 ?_
   refine x8x (b := 1) rfl rfl (by omega) (dv 1 ?_)
   exact ⟨k + 1, ⟨⟨by omega, s6s c2 hv (fun k2 hk2 => by rw [hk] at hk2; cases hk2; exact ⟨hvo, by omega⟩)⟩, by omega⟩, [0, 0, 0, _], x6x, x6x, x5x, x5x, rfl⟩
  refine dv 3 ?_
  refine x2x rfl ?_ rfl
  exact congrArg (fun b : Bool => [AV.pv (.bool b)]) (a4g (fun h => by obtain ⟨q1, q2, q3, q4, q5, q6, q7, q8, q9⟩ := h; have := (q9 _ _ _ hv hk).2; omega))
end
section
theorem a4x (c : Bool) (n : Nd) (proc : Int) (hs : (r2r n).length + (a0f n 3).length ≤ 5000000) (hlen : n.lanes.length ≤ 1048576) (hv3 : n.views.length = 3) : a0q Tryz.prog 124 [.agg (u2u c n), .pv (.int .i64 proc)] (q2q true (a1f n proc)) := by
 refine pX Tryz.f124 [q2q true (a1f n proc)] 6 ?_
 have hla : (r2r n ++ a0f n 3).length = (r2r n).length + (a0f n 3).length := List.length_append
 refine dv 1 ?_
 refine y0y (id := 0) rfl rfl rfl (dv 3 ?_)
 refine rlM [5] [_] (a7d c n (by omega) hlen) rfl rfl rfl ?_
 refine dv 5 fun K K' => ?_
 refine x4x (ι := Nat) (fun i γ1 => [(5, .ref 5 (γ1 5)), (6, pI (i : Int))]) (fun i γ1 => [(5, ((γ1 5), .row 56 7 ((r2r n ++ a0f n i).map y9y))), (1, ((γ1 1), .dead))]) (fun i => i ≤ 3) (fun i => 3 - i) (q8q [1, 2] rfl) (a0o [0, 2, 3, 4] rfl) 0 (by omega) [0, _, 0, 0, 0, _] x6x (HE.row rfl (by simp [a0f]) (HE.kill rfl HE.nil)) rfl fun i γ1 hi => ?_
 refine dc 7 (fun K K' => aI ?_ ?_)<;>intro h<;>try simp at h
 ·obtain ⟨v, hv⟩ := gE n.views i
  have hg : n.views.getD i vi0 = v := by rw [List.getD_eq_getElem?_getD, hv]; rfl
  have hol := c4j n (i := i + 1) (by omega)
  rw [a1b] at hol
  refine dc 8 (fun K K' => aS ?_ ?_)<;>intro hc5<;>try simp at hc5
  ·have hve : b0s n i = [] := by rw [b0s, if_pos hc5]
   refine dv 3 ?_
   refine z8z rfl rfl rfl (dv 1 ?_)
   exact ⟨i + 1, ⟨by omega, by omega⟩, [0, _, 0, 0, 0, _], (x7x 5 rfl (Cov.cons' (t := 6) rfl (by rw [x9x (by omega) (by omega)]; rfl) Cov.nil)), x6x, (HE.row rfl (by rw [a1b, hve]; simp) (HE.kill rfl HE.nil)), x5x, rfl⟩
  have hve : b0s n i = v.events := by rw [b0s, if_neg hc5, hg]
  rw [hve] at hol
  simp only [r7r] at hol
  refine dv 8 ?_
  refine w5w (zs := (r2r n ++ a0f n i ++ v.events).map y9y) rfl rfl u4u rfl z2z rfl rfl rfl (z9z (fun _ => rfl) _) (a7w _ _ _) (by have hb56 : T56.bytes = 56 := rfl; rw [List.length_map, hb56]; simp only [r7r, a0c, a0d]; omega) ?_
  refine dv 3 ?_
  refine z8z rfl rfl rfl (dv 1 ?_)
  exact ⟨i + 1, ⟨by omega, by omega⟩, [0, _, 0, 0, 0, _], (x7x 5 rfl (Cov.cons' (t := 6) rfl (by rw [x9x (by omega) (by omega)]; rfl) Cov.nil)), x6x, (HE.row rfl (by rw [a1b, hve]; simp) (HE.kill rfl HE.nil)), x5x, rfl⟩
 obtain rfl : i = 3 := by omega
 have hall : (r2r n ++ a0f n 3).length ≤ 5000000 := by rw [List.length_append]; omega
 refine dv 1 ?_
 refine p8p 5 rfl rfl (fun _ => rfl) ?_
 refine dv 1 ?_
 refine y1y (id := 2) u4u rfl z2z rfl (dv 5 fun K K' => ?_)
 refine x4x (ι := Nat) (fun j γ2 => [(7, .ref 2 (γ2 2)), (8, pI (j : Int))]) (fun j γ2 => [(2, ((γ2 2), .row 56 7 ((((r2r n ++ a0f n 3).take j).filter (a9h proc n.g)).map y9y))), (3, ((γ2 3), .dead)), (4, ((γ2 4), .dead))]) (fun j => j ≤ (r2r n ++ a0f n 3).length) (fun j => (r2r n ++ a0f n 3).length - j) (q8q [1, 2, 5] rfl) (a0o [0, 1, 5] rfl) 0 (by omega) [0, 0, _, _, _] x6x (HE.row rfl (by rw [List.take_zero]; rfl) (HE.kill rfl (HE.kill rfl HE.nil))) rfl fun j γ2 hi => ?_
 refine dc 6 (fun K K' => aS ?_ ?_)<;>intro h<;>try simp at h
 ·obtain rfl : j = (r2r n ++ a0f n 3).length := by omega
  rw [List.take_length]
  refine dv 1 ?_
  refine p8p 7 rfl rfl (fun _ => rfl) ?_
  refine dv 2 ?_
  refine x0x rfl rfl rfl (a1z true ((r2r n ++ a0f n 3).filter (a9h proc n.g)) (Nat.le_trans (List.length_filter_le _ _) (by rw [List.length_append]; omega))) ?_
  refine dv 2 ?_
  refine x2x rfl rfl rfl
 obtain ⟨p, hp⟩ := gE (r2r n ++ a0f n 3) j
 have hfl : (((r2r n ++ a0f n 3).take j).filter (a9h proc n.g)).length ≤ 5000000 := Nat.le_trans (List.length_filter_le _ _) (by rw [List.length_take]; omega)
 refine dc 12 (fun K K' => aS ?_ ?_)<;>intro hg10<;>try simp at hg10
 ·have hw : ¬ a9h proc n.g p = true := by simp only [a9h, decide_eq_true_eq]; omega
  refine dv 9 ?_
  try have hw : ¬ a9h proc n.g p = true := by simp only [a9h, decide_eq_true_eq]; omega
  refine dv 3 ?_
  refine z8z rfl rfl rfl (dv 1 ?_)
  exact ⟨j + 1, ⟨by omega, by omega⟩, [0, 0, _, _, _], (x7x 7 rfl (Cov.cons' (t := 8) rfl (by rw [x9x (by omega) (by omega)]; rfl) Cov.nil)), x6x, (HE.row rfl (by rw [q9q hp]; rw [if_neg hw, List.append_nil]) (HE.kill rfl (HE.kill rfl HE.nil))), x5x, rfl⟩
 have hw1 : p.to = proc := hg10
 refine dc 9 (aS ?_ ?_)<;>intro h<;>try simp at h
 ·try have hw : ¬ a9h proc n.g p = true := by simp only [a9h, decide_eq_true_eq]; omega
  refine dv 3 ?_
  refine z8z rfl rfl rfl (dv 1 ?_)
  exact ⟨j + 1, ⟨by omega, by omega⟩, [0, 0, _, _, _], (x7x 7 rfl (Cov.cons' (t := 8) rfl (by rw [x9x (by omega) (by omega)]; rfl) Cov.nil)), x6x, (HE.row rfl (by rw [q9q hp]; rw [if_neg hw, List.append_nil]) (HE.kill rfl (HE.kill rfl HE.nil))), x5x, rfl⟩
 have hw : a9h proc n.g p = true := by simp only [a9h, decide_eq_true_eq]; omega
 refine dv 6 ?_
 refine y3y (id := 3) u4u rfl z2z rfl rfl rfl rfl rfl rfl ?_
 refine y6y (zs := (((r2r n ++ a0f n 3).take j).filter (a9h proc n.g) ++ [p]).map y9y) rfl rfl u4u rfl z2z rfl rfl rfl rfl (by rfl) (z7z _ _ _) (by have hb56 : T56.bytes = 56 := rfl; rw [List.length_map, hb56]; simp only [r7r, a0c, a0d]; omega) ?_
 refine dv 3 ?_
 refine z8z rfl rfl rfl (dv 1 ?_)
 exact ⟨j + 1, ⟨by omega, by omega⟩, [0, 0, _, _, _], (x7x 7 rfl (Cov.cons' (t := 8) rfl (by rw [x9x (by omega) (by omega)]; rfl) Cov.nil)), x6x, (HE.row rfl (by rw [q9q hp]; rw [if_pos hw]) (HE.kill rfl (HE.kill rfl HE.nil))), x5x, rfl⟩
end
section
theorem p1p (c : Bool) (n : Nd) : a0q Tryz.prog 46 [.agg (u2u c n)] (.pv (.bool (kb (y5y n)))) := by
 refine pX Tryz.f46 [.pv (.bool (kb (y5y n)))] 1 ?_
 have hpl := a6d n.id 4
 refine dv 1 ?_
 refine y0y (id := 0) rfl rfl rfl (dv 5 fun K K' => ?_)
 refine x0x rfl rfl rfl (z1z ..) (dc 2 (aS ?_ ?_))<;>intro hg2<;>try simp at hg2
 ·have hX : ¬ (0 ≤ n.id ∧ n.id ≤ 2) := by omega
  refine dv 40 ?_
  refine x2x rfl ?_ rfl
  exact congrArg (fun b : Bool => [AV.pv (.bool b)]) (a4g (fun h => by obtain ⟨⟨q1, q2, q3, q4, q5, q6, q7, q8, q9⟩, q0⟩ := h; exact hX q1.1))
 have f1 : 0 ≤ n.id ∧ n.id ≤ 2 := hg2
 refine dv 2 ?_
 refine x0x rfl rfl rfl (u7u ..) (dv 0 ?_)
 refine x0x rfl rfl rfl (z1z ..) (dc 3 (aS ?_ ?_))<;>intro hg3<;>try simp at hg3
 ·have hX : ¬ (1 ≤ n.inc ∧ n.inc ≤ 9999) := by omega
  refine dv 33 ?_
  refine x2x rfl ?_ rfl
  exact congrArg (fun b : Bool => [AV.pv (.bool b)]) (a4g (fun h => by obtain ⟨⟨q1, q2, q3, q4, q5, q6, q7, q8, q9⟩, q0⟩ := h; exact hX q1.2.1))
 have f2 : 1 ≤ n.inc ∧ n.inc ≤ 9999 := hg3
 refine dv 2 ?_
 refine x0x rfl rfl rfl (z1z ..) (dc 3 (aS ?_ ?_))<;>intro hg4<;>try simp at hg4
 ·have hX : ¬ (0 ≤ n.g ∧ n.g ≤ 41) := by omega
  refine dv 27 ?_
  refine x2x rfl ?_ rfl
  exact congrArg (fun b : Bool => [AV.pv (.bool b)]) (a4g (fun h => by obtain ⟨⟨q1, q2, q3, q4, q5, q6, q7, q8, q9⟩, q0⟩ := h; exact hX q1.2.2.1))
 have f3 : 0 ≤ n.g ∧ n.g ≤ 41 := hg4
 refine dv 2 ?_
 refine x0x rfl rfl rfl (u7u ..) (dv 0 ?_)
 refine x0x rfl rfl rfl (z1z ..) (dc 3 (aS ?_ ?_))<;>intro hg5<;>try simp at hg5
 ·have hX : ¬ (0 ≤ n.led ∧ n.led ≤ 9999) := by omega
  refine dv 20 ?_
  refine x2x rfl ?_ rfl
  exact congrArg (fun b : Bool => [AV.pv (.bool b)]) (a4g (fun h => by obtain ⟨⟨q1, q2, q3, q4, q5, q6, q7, q8, q9⟩, q0⟩ := h; exact hX q1.2.2.2.1))
 have f4 : 0 ≤ n.led ∧ n.led ≤ 9999 := hg5
 refine dv 2 ?_
 refine x0x rfl rfl rfl (a4k ..) (dv 0 ?_)
 refine x0x rfl rfl rfl (a4d ..) (dc 3 (aS ?_ ?_))<;>intro hg6<;>try simp at hg6
 ·have hX : ¬ a9f okE a2r n.kept 100 = true := by simpa using hg6
  refine dv 13 ?_
  refine x2x rfl ?_ rfl
  exact congrArg (fun b : Bool => [AV.pv (.bool b)]) (a4g (fun h => by obtain ⟨⟨q1, q2, q3, q4, q5, q6, q7, q8, q9⟩, q0⟩ := h; exact hX q2))
 have f5 : a9f okE a2r n.kept 100 = true := hg6
 refine dv 2 ?_
 refine x0x rfl rfl rfl (a8o ..) (dc 3 (aS ?_ ?_))<;>intro hg7<;>try simp at hg7
 ·have hX : ¬ a9f okO b3o n.outs 96 = true := by simpa using hg7
  refine dv 7 ?_
  refine x2x rfl ?_ rfl
  exact congrArg (fun b : Bool => [AV.pv (.bool b)]) (a4g (fun h => by obtain ⟨⟨q1, q2, q3, q4, q5, q6, q7, q8, q9⟩, q0⟩ := h; exact hX q3))
 have f6 : a9f okO b3o n.outs 96 = true := hg7
 refine dv 1 ?_
 refine x0x rfl rfl rfl (c5n ..) (dc 2 (aI ?_ ?_))<;>intro hc8<;>try simp at hc8
 ·try have hX : ¬ c9p n := a1o (by simpa using hc8)
  refine dv 3 ?_
  refine x2x rfl ?_ rfl
  exact congrArg (fun b : Bool => [AV.pv (.bool b)]) (a4g (fun h => by obtain ⟨⟨q1, q2, q3, q4, q5, q6, q7, q8, q9⟩, q0⟩ := h; exact hX ⟨q6, q7, q1.2.2.2.2.1, q1.2.2.2.2.2.1, q1.2.2.2.2.2.2, q9⟩))
 have fF : c9p n := a1e.1 (by simpa using hc8)
 have fo96 := (r3r f6).1
 refine dv 1 ?_
 refine p7p (ι := Unit) (fun _i γ1 => []) (fun _i γ1 => []) (fun _i => ∀ (i : Nat) a, n.outs[i]? = some a → a.time < n.g) (x7x 1 rfl Cov.nil) (u9u 0 rfl HE.nil) ?_ fun _i γ1 hi => ?_
 ·refine dc 6 (aS ?_ ?_)<;>intro hg9<;>try simp at hg9
  ·have g0 : n.outs.length = 0 := by (rw [hg9]; rfl)
   have fO : ∀ (i : Nat) a, n.outs[i]? = some a → a.time < n.g := fun i a ha => by have := (List.getElem?_eq_some_iff.1 ha).1; omega
   refine dv 13 ?_
   try have fO : ∀ (i : Nat) a, n.outs[i]? = some a → a.time < n.g := d2q f6 ho (by omega)
   refine dv 1 ?_
   exact ⟨(), fO, [], x6x, x6x, x5x, x5x, rfl⟩
  have g0 : 0 < n.outs.length := by omega
  obtain ⟨o, ho⟩ := gE n.outs (n.outs.length - 1)
  refine dv 5 ?_
  refine p5p (b := 1) rfl rfl (by omega) (by omega) (dc 7 (aS ?_ ?_))<;>intro u<;>try simp at u
  ·try have fO : ∀ (i : Nat) a, n.outs[i]? = some a → a.time < n.g := d2q f6 ho (by omega)
   refine dv 1 ?_
   exact ⟨(), fO, [], x6x, x6x, x5x, x5x, rfl⟩
  have hX : ¬ o.time < n.g := by omega
  refine dv 3 ?_
  refine x2x rfl ?_ rfl
  exact congrArg (fun b : Bool => [AV.pv (.bool b)]) (a4g (fun h => by obtain ⟨⟨q1, q2, q3, q4, q5, q6, q7, q8, q9⟩, q0⟩ := h; exact hX (q4 _ _ ho)))
 ·try dsimp only [b1d, b1e]
  have fO := hi
  refine dv 3 ?_
  refine x0x rfl rfl rfl (b5a ..) (dc 9 (fun K K' => aI ?_ ?_))<;>intro u<;>try simp at u
  ·refine dv 3 ?_
   refine x2x rfl ?_ rfl
   exact congrArg (fun b : Bool => [AV.pv (.bool b)]) (a4g (fun h => by obtain ⟨⟨q1, q2, q3, q4, q5, q6, q7, q8, q9⟩, q0⟩ := h; omega))
  have fL : n.lanes.length = (q1q n.id 4).length := by omega
  refine dv 5 fun K K' => ?_
  refine x4x (ι := Nat) (fun i γ2 => [(4, pI (i : Int))]) (fun i γ2 => []) (fun i => i ≤ (q1q n.id 4).length ∧ c9q n.lanes (fun j l => (q1q n.id 4)[j]? = some l.proc ∧ a7q l = true) i) (fun i => (q1q n.id 4).length - i) (q8q [1, 3] rfl) (u9u 0 rfl HE.nil) 0 ⟨by omega, a1p⟩ [] x6x x5x rfl fun i γ2 hi => ?_
  obtain ⟨b1, b2⟩ := hi
  refine dc 6 (fun K K' => aI ?_ ?_)<;>intro u<;>try simp at u
  ·obtain ⟨l, hl⟩ := gE n.lanes i
   obtain ⟨p, hp⟩ := gE (q1q n.id 4) i
   refine dv 9 fun K K' => ?_
   refine x0x rfl rfl rfl (a4l ..) (dc 2 (aS ?_ ?_))<;>intro hg18<;>try simp at hg18
   ·have hX : ¬ a7q l = true := by simpa using hg18
    refine dv 16 ?_
    refine x2x rfl ?_ rfl
    exact congrArg (fun b : Bool => [AV.pv (.bool b)]) (a4g (fun h => by obtain ⟨⟨q1, q2, q3, q4, q5, q6, q7, q8, q9⟩, q0⟩ := h; exact hX (q8 _ _ hl).2))
   have hlo : a7q l = true := hg18
   refine dc 13 (aS ?_ ?_)<;>intro hc19<;>try simp at hc19
   ·have hpe : l.proc = p := hc19
    refine dv 3 ?_
    refine x8x (b := 1) rfl rfl (by omega) (dv 1 ?_)
    exact ⟨i + 1, ⟨⟨by omega, s6s b2 hl ⟨by rw [hp, hpe], hlo⟩⟩, by omega⟩, [], x6x, x6x, x5x, x5x, rfl⟩
   try have hX : ¬ l.proc = p := hc19
   refine dv 3 ?_
   refine x2x rfl ?_ rfl
   exact congrArg (fun b : Bool => [AV.pv (.bool b)]) (a4g (fun h => by obtain ⟨⟨q1, q2, q3, q4, q5, q6, q7, q8, q9⟩, q0⟩ := h; have := (q8 _ _ hl).1; rw [hp] at this; exact hX (Option.some.inj this).symm))
  have fN : e7k n := a3c b2 (by omega)
  refine dv 5 fun K K' => ?_
  refine x4x (ι := Nat) (fun j γ3 => [(5, pI (j : Int))]) (fun j γ3 => []) (fun j => j ≤ (q1q n.id 4).length ∧ c9q n.lanes (fun j l => ∀ p, (q1q n.id 4)[j]? = some p → l.done.length ≤ same l.done (a1f n p) ∧ (a1f n p).length ≤ 100) j) (fun j => (q1q n.id 4).length - j) (q8q [1, 3] rfl) (u9u 0 rfl HE.nil) 0 ⟨by omega, a1p⟩ [] x6x x5x rfl fun j γ3 hi => ?_
  obtain ⟨d1, d2⟩ := hi
  refine dc 6 (fun K K' => aS ?_ ?_)<;>intro u<;>try simp at u
  ·have fC := fun (i : Nat) p l (a : (q1q n.id 4)[i]? = some p) (b : n.lanes[i]? = some l) => a3c d2 (by omega) i l b p a
   refine dv 4 ?_
   refine x2x rfl ?_ rfl
   exact congrArg (fun b : Bool => [AV.pv (.bool b)]) (e5z ⟨⟨⟨f1, f2, f3, f4, fF.2.2.1, fF.2.2.2.1, fF.2.2.2.2.1⟩, f5, f6, fO, fL, fF.1, fF.2.1, fN, fF.2.2.2.2.2⟩, fC⟩)
  obtain ⟨l, hl⟩ := gE n.lanes j
  obtain ⟨p, hp⟩ := gE (q1q n.id 4) j
  obtain ⟨hdl, _⟩ := a3j (fN j l hl).2
  refine dv 15 fun K K' => ?_
  refine x0x rfl rfl rfl (a4x c n p (by have := c9s f5 (by omega) fN; have := c9t fF.1 fF.2.1 fF.2.2.2.2.2; omega) (by omega) fF.1) ?_
  refine x0x rfl rfl rfl (b0u ..) (dc 9 (aS ?_ ?_))<;>intro u<;>try simp at u
  ·refine dv 14 ?_
   refine x2x rfl ?_ rfl
   exact congrArg (fun b : Bool => [AV.pv (.bool b)]) (a4g (fun h => by obtain ⟨⟨q1, q2, q3, q4, q5, q6, q7, q8, q9⟩, q0⟩ := h; have := q0 _ _ _ hp hl; omega))
  refine dv 6 ?_
  refine x0x rfl rfl rfl (a4x c n p (by have := c9s f5 (by omega) fN; have := c9t fF.1 fF.2.1 fF.2.2.2.2.2; omega) (by omega) fF.1) ?_
  refine dv 1 ?_
  refine x0x rfl rfl rfl (a4k ..) (dc 2 (aS ?_ ?_))<;>intro u<;>try simp at u
  ·refine dv 3 ?_
   refine x8x (b := 1) rfl rfl (by omega) (dv 1 ?_)
   exact ⟨j + 1, ⟨⟨by omega, s6s d2 hl (fun p2 hp2 => by rw [hp] at hp2; cases hp2; omega)⟩, by omega⟩, [], x6x, x6x, x5x, x5x, rfl⟩
  refine dv 3 ?_
  refine x2x rfl ?_ rfl
  exact congrArg (fun b : Bool => [AV.pv (.bool b)]) (a4g (fun h => by obtain ⟨⟨q1, q2, q3, q4, q5, q6, q7, q8, q9⟩, q0⟩ := h; have := q0 _ _ _ hp hl; omega))
end
section
theorem a9n (c : Bool) (n : Nd) (t : Nat) (ht : t < 3) (hk3 : n.known.length = 3) (hs : (r2r n).length ≤ 5000000) (hlen : n.lanes.length ≤ 1048576) : a0q Tryz.prog 135 [.agg (u2u c n), .pv (.int .i64 (t : Int))] (q2q true (a1w n (t : Int))) := by
 refine pX Tryz.f135 [q2q true (a1w n (t : Int))] 5 ?_
 obtain ⟨kn, hkn⟩ := gE n.known t
 rw [c4l hkn]
 refine dv 1 ?_
 refine y0y (id := 0) rfl rfl rfl (dv 3 ?_)
 refine rlM [4] [_] (a7d c n (by omega) hlen) rfl rfl rfl ?_
 refine dv 1 ?_
 refine p8p 5 rfl rfl (fun _ => rfl) ?_
 refine dv 1 ?_
 refine y1y (id := 1) u4u rfl z2z rfl (dv 5 fun K K' => ?_)
 refine x4x (ι := Nat) (fun j γ1 => [(6, .ref 1 (γ1 1)), (7, pI (j : Int))]) (fun j γ1 => [(1, ((γ1 1), .row 56 7 ((((r2r n).take j).filter (a3r (t : Int) kn)).map y9y))), (2, ((γ1 2), .dead)), (3, ((γ1 3), .dead))]) (fun j => j ≤ (r2r n).length) (fun j => (r2r n).length - j) (q8q [1, 2, 5] rfl) (a0o [0, 4] rfl) 0 (by omega) [0, _, _, _] x6x (HE.row rfl (by rw [List.take_zero]; rfl) (HE.kill rfl (HE.kill rfl HE.nil))) rfl fun j γ1 hi => ?_
 refine dc 6 (fun K K' => aS ?_ ?_)<;>intro h<;>try simp at h
 ·obtain rfl : j = (r2r n).length := by omega
  rw [List.take_length]
  refine dv 1 ?_
  refine p8p 6 rfl rfl (fun _ => rfl) ?_
  refine dv 2 ?_
  refine x0x rfl rfl rfl (a1z true ((r2r n).filter (a3r (t : Int) kn)) (Nat.le_trans (List.length_filter_le _ _) (by omega))) ?_
  refine dv 2 ?_
  refine x2x rfl rfl rfl
 obtain ⟨p, hp⟩ := gE (r2r n) j
 have hfl : (((r2r n).take j).filter (a3r (t : Int) kn)).length ≤ 5000000 := Nat.le_trans (List.length_filter_le _ _) (by rw [List.length_take]; omega)
 refine dv 9 fun K K' => ?_
 refine x0x rfl rfl rfl (a0p ..) (dc 3 (aS ?_ ?_))<;>intro hg5<;>try simp at hg5
 ·have hw : ¬ a3r (t : Int) kn p = true := by simp only [a3r, decide_eq_true_eq]; omega
  refine dv 12 ?_
  try have hw : ¬ a3r (t : Int) kn p = true := by simp only [a3r, decide_eq_true_eq]; omega
  refine dv 3 ?_
  refine z8z rfl rfl rfl (dv 1 ?_)
  exact ⟨j + 1, ⟨by omega, by omega⟩, [0, _, _, _], (x7x 6 rfl (Cov.cons' (t := 7) rfl (by rw [x9x (by omega) (by omega)]; rfl) Cov.nil)), x6x, (HE.row rfl (by rw [q9q hp]; rw [if_neg hw, List.append_nil]) (HE.kill rfl (HE.kill rfl HE.nil))), x5x, rfl⟩
 have hw1 : q3q p.to = (t : Int) := hg5
 refine dc 12 (aS ?_ ?_)<;>intro h<;>try simp at h
 ·try have hw : ¬ a3r (t : Int) kn p = true := by simp only [a3r, decide_eq_true_eq]; omega
  refine dv 3 ?_
  refine z8z rfl rfl rfl (dv 1 ?_)
  exact ⟨j + 1, ⟨by omega, by omega⟩, [0, _, _, _], (x7x 6 rfl (Cov.cons' (t := 7) rfl (by rw [x9x (by omega) (by omega)]; rfl) Cov.nil)), x6x, (HE.row rfl (by rw [q9q hp]; rw [if_neg hw, List.append_nil]) (HE.kill rfl (HE.kill rfl HE.nil))), x5x, rfl⟩
 have hw : a3r (t : Int) kn p = true := by simp only [a3r, decide_eq_true_eq]; omega
 refine dv 6 ?_
 refine y3y (id := 2) u4u rfl z2z rfl rfl rfl rfl rfl rfl ?_
 refine y6y (zs := (((r2r n).take j).filter (a3r (t : Int) kn) ++ [p]).map y9y) rfl rfl u4u rfl z2z rfl rfl rfl rfl (by rfl) (z7z _ _ _) (by (simp only [a0e, r7r, a0c, a0d, a0r, a2y, T56] at *; omega)) ?_
 refine dv 3 ?_
 refine z8z rfl rfl rfl (dv 1 ?_)
 exact ⟨j + 1, ⟨by omega, by omega⟩, [0, _, _, _], (x7x 6 rfl (Cov.cons' (t := 7) rfl (by rw [x9x (by omega) (by omega)]; rfl) Cov.nil)), x6x, (HE.row rfl (by rw [q9q hp]; rw [if_pos hw]) (HE.kill rfl (HE.kill rfl HE.nil))), x5x, rfl⟩
end
section
theorem c6v (c c' : Bool) (l l' : List Ev) : a0q Tryz.prog 251 [q2q c l, q2q c' l'] (.pv (.bool (decide (l = l')))) := by
 refine pX Tryz.f251 [.pv (.bool (decide (l = l')))] 0 ?_
 refine u0u 0 rfl fun hlen => ?_
 refine dc 9 (fun K K' => aI ?_ ?_)<;>intro o<;>try simp at o
 ·refine dv 3 ?_
  refine x2x rfl ?_ rfl
  exact e7z (by omega)
 refine dv 5 fun K K' => ?_
 refine x4x (ι := Nat) (fun i γ1 => [(5, pI (i : Int))]) (fun i γ1 => []) (fun i => i ≤ l.length ∧ l.length = l'.length ∧ l.take i = l'.take i) (fun i => l.length - i) (q8q [0, 1] rfl) HE.nil 0 ⟨by omega, by omega, rfl⟩ [] x6x x5x rfl fun i γ1 hi => ?_
 obtain ⟨h1, h2, h3⟩ := hi
 refine dc 6 (fun K K' => aS ?_ ?_)<;>intro o<;>try simp at o
 ·refine dv 4 ?_
  refine x2x rfl ?_ rfl
  exact eqT h3 (by omega) (by omega)
 refine dv 6 fun K K' => ?_
 obtain ⟨x, hx⟩ := gE l i
 refine dv 4 ?_
 obtain ⟨y, hy⟩ := gE l' i
 refine dv 2 ?_
 refine a7i rfl rfl (by intro p q h; cases h) (.inr rfl) (e6b _ _ _ _) ?_
 refine dc 0 (aS ?_ ?_)<;>intro hc7<;>try simp at hc7
 ·have hxy : x = y := by simpa [a1u] using hc7
  refine dv 3 ?_
  refine s5s (.int .i64 ((i + 1 : Nat) : Int)) rfl rfl rfl (a6p rfl (by omega) (by omega) (by have := hlen; omega)) ?_
  refine dv 1 ?_
  exact ⟨i + 1, ⟨⟨by omega, h2, a4v h3 hx hy (by assumption)⟩, by omega⟩, [], x6x, x6x, x5x, x5x, rfl⟩
 have hxy : ¬ x = y := by simpa [a1u] using hc7
 refine dv 3 ?_
 refine x2x rfl ?_ rfl
 exact d7j hx hy (by assumption)
theorem b3k (c : Bool) (a b : List Ev) (g : Int) : a0q Tryz.prog 169 [q2q c a, q2q c b, .pv (.int .i64 g)] (.pv (.int .i64 (chg g a (chg g b 41 a) b))) := by
 refine pX Tryz.f169 [.pv (.int .i64 (chg g a (chg g b 41 a) b))] 0 ?_
 refine dv 8 fun K K' => ?_
 refine x4x (ι := Nat) (fun k γ1 => [(0, q2q c (swK a b k)), (1, q2q c (swK b a k)), (7, pI (e9z g a b k)), (8, pI (k : Int))]) (fun k γ1 => []) (fun k => k ≤ 2) (fun k => 2 - k) (x7x 2 rfl Cov.nil) HE.nil 0 (by omega) [] (Cov.cons' (t := 0) rfl (rfl) (Cov.cons' (t := 1) rfl (rfl) (Cov.cons' (t := 7) rfl (rfl) (x7x 8 rfl Cov.nil)))) x5x rfl fun k γ1 hi => ?_
 refine dc 4 (fun K K' => aS ?_ ?_)<;>intro o<;>try simp at o
 ·obtain rfl : k = 2 := by omega
  refine dv 5 ?_
  exact x2x rfl rfl rfl
 refine dv 7 fun K K' K K' => ?_
 refine u0u 0 rfl fun hlen0 => ?_
 refine x4x (ι := Nat) (fun i γ2 => [(7, pI (chg g (swK b a k) (e9z g a b k) ((swK a b k).take i))), (9, pI (i : Int))]) (fun i γ2 => []) (fun i => i ≤ (swK a b k).length) (fun i => (swK a b k).length - i) (q8q [0, 1, 2, 8] rfl) HE.nil 0 (by omega) [] (Cov.cons' (t := 7) rfl (by rw [List.take_zero]; rfl) (x7x 9 rfl Cov.nil)) x5x rfl fun i γ2 hi => ?_
 refine dc 6 (fun K K' => aS ?_ ?_)<;>intro o<;>try simp at o
 ·obtain rfl : i = (swK a b k).length := by omega
  refine dv 12 ?_
  refine x8x (b := 1) rfl rfl (by omega) (dv 1 ?_)
  exact ⟨k + 1, ⟨by omega, by omega⟩, [], (Cov.cons' (t := 0) rfl (by rw [d7h (by omega)]) (Cov.cons' (t := 1) rfl (by rw [d7h (by omega)]) (Cov.cons' (t := 7) rfl (by rw [e3l (by omega), List.take_length]) (x7x 8 rfl Cov.nil)))), x6x, x5x, x5x, rfl⟩
 obtain ⟨x, hx⟩ := gE (swK a b k) i
 refine dv 9 fun K K' K K' => ?_
 refine u0u 1 rfl fun hlen1 => ?_
 refine x4x (ι := Nat) (fun j γ3 => [(10, .pv (.bool (decide (x ∈ (swK b a k).take j)))), (11, pI (j : Int))]) (fun j γ3 => []) (fun j => j ≤ (swK b a k).length) (fun j => (swK b a k).length - j) (q8q [0, 1, 2, 7, 8, 9] rfl) HE.nil 0 (by omega) [] (Cov.cons' (t := 10) rfl (by simp) (x7x 11 rfl Cov.nil)) x5x rfl fun j γ3 hi => ?_
 refine dc 6 (fun K K' => aI ?_ ?_)<;>intro o<;>try simp at o
 ·obtain ⟨z, hz⟩ := gE (swK b a k) j
  refine dc 6 (fun K K' => aS ?_ ?_)<;>intro hg13<;>try simp at hg13
  ·have hin : x ∈ (swK b a k).take j := by simpa using hg13
   refine dv 12 ?_
   refine x8x (b := 1) rfl rfl (by omega) (dv 1 ?_)
   exact ⟨j + 1, ⟨by omega, by omega⟩, [], (Cov.cons' (t := 10) rfl (by rw [z6z hz]; (simp [hin]; done)) (x7x 11 rfl Cov.nil)), x6x, x5x, x5x, rfl⟩
  have hin : ¬ x ∈ (swK b a k).take j := by simpa using hg13
  refine dv 8 ?_
  refine a7i rfl rfl (by intro a c h; cases h) (.inl rfl) (e6b _ _ _ _) ?_
  refine dv 4 ?_
  refine x8x (b := 1) rfl rfl (by omega) (dv 1 ?_)
  exact ⟨j + 1, ⟨by omega, by omega⟩, [], (Cov.cons' (t := 10) rfl (by rw [z6z hz]; (simp [hin]; rfl)) (x7x 11 rfl Cov.nil)), x6x, x5x, x5x, rfl⟩
 obtain rfl : j = (swK b a k).length := by omega
 rw [List.take_length]
 refine dc 5 (aS ?_ ?_)<;>intro hg14<;>try simp at hg14
 ·have hn : ¬ (g ≤ x.time ∧ x.time < chg g (swK b a k) (e9z g a b k) ((swK a b k).take i) ∧ ¬ x ∈ swK b a k) := fun q => q.2.2 (by simpa using hg14)
  refine dv 20 ?_
  refine x8x (b := 1) rfl rfl (by omega) (dv 1 ?_)
  exact ⟨i + 1, ⟨by omega, by omega⟩, [], (Cov.cons' (t := 7) rfl (by rw [a8j hx, if_neg hn]) (x7x 9 rfl Cov.nil)), x6x, x5x, x5x, rfl⟩
 have hm : ¬ x ∈ swK b a k := by simpa using hg14
 refine dc 9 (aS ?_ ?_)<;>intro o<;>try simp at o
 ·have hn : ¬ (g ≤ x.time ∧ x.time < chg g (swK b a k) (e9z g a b k) ((swK a b k).take i) ∧ ¬ x ∈ swK b a k) := fun q => (by have := q.1; omega)
  refine dv 11 ?_
  refine x8x (b := 1) rfl rfl (by omega) (dv 1 ?_)
  exact ⟨i + 1, ⟨by omega, by omega⟩, [], (Cov.cons' (t := 7) rfl (by rw [a8j hx, if_neg hn]) (x7x 9 rfl Cov.nil)), x6x, x5x, x5x, rfl⟩
 refine dc 8 (aS ?_ ?_)<;>intro o<;>try simp at o
 ·have hn : ¬ (g ≤ x.time ∧ x.time < chg g (swK b a k) (e9z g a b k) ((swK a b k).take i) ∧ ¬ x ∈ swK b a k) := by exact fun q => (by have := q.2.1; omega)
  refine dv 3 ?_
  refine x8x (b := 1) rfl rfl (by omega) (dv 1 ?_)
  exact ⟨i + 1, ⟨by omega, by omega⟩, [], (Cov.cons' (t := 7) rfl (by rw [a8j hx, if_neg hn]) (x7x 9 rfl Cov.nil)), x6x, x5x, x5x, rfl⟩
 have hy : g ≤ x.time ∧ x.time < chg g (swK b a k) (e9z g a b k) ((swK a b k).take i) ∧ ¬ x ∈ swK b a k := ⟨by omega, by omega, hm⟩
 refine dv 9 ?_
 refine x8x (b := 1) rfl rfl (by omega) (dv 1 ?_)
 exact ⟨i + 1, ⟨by omega, by omega⟩, [], (Cov.cons' (t := 7) rfl (by (rw [a8j hx, if_pos hy] <;> rfl)) (x7x 9 rfl Cov.nil)), x6x, x5x, x5x, rfl⟩
theorem b5c (n : Nd) (hw : wk n) : Meth Tryz.prog 171 3 [0, 1, 2] [.agg [pI n.id, .pv (.bool n.up), pI n.inc, pI n.g, .ref 0 0, q2q true n.kept, r0r true n.outs, pI n.led, pI n.version, .ref 1 0, .ref 2 0, pI n.round, pI n.low]] [(0, (0, .row 44 5 ((n.lanes).map (q7q true)))), (1, (0, .row 190 3 ((n.views).map (a2c true)))), (2, (0, .row 3 1 (n.known.map a2w)))] (.agg [pI (nl n (w2w n n.lanes)).id, .pv (.bool (nl n (w2w n n.lanes)).up), pI (nl n (w2w n n.lanes)).inc, pI (nl n (w2w n n.lanes)).g, .ref 0 0, q2q true (nl n (w2w n n.lanes)).kept, r0r true (nl n (w2w n n.lanes)).outs, pI (nl n (w2w n n.lanes)).led, pI (nl n (w2w n n.lanes)).version, .ref 1 0, .ref 2 0, pI (nl n (w2w n n.lanes)).round, pI (nl n (w2w n n.lanes)).low]) [(0, (0, .row 44 5 ((w2w n n.lanes).map (q7q true))))] := by
 refine mX Tryz.f171 [.agg [pI (nl n (w2w n n.lanes)).id, .pv (.bool (nl n (w2w n n.lanes)).up), pI (nl n (w2w n n.lanes)).inc, pI (nl n (w2w n n.lanes)).g, .ref 0 0, q2q true (nl n (w2w n n.lanes)).kept, r0r true (nl n (w2w n n.lanes)).outs, pI (nl n (w2w n n.lanes)).led, pI (nl n (w2w n n.lanes)).version, .ref 1 0, .ref 2 0, pI (nl n (w2w n n.lanes)).round, pI (nl n (w2w n n.lanes)).low]] 3 2 fun γ => ?_
 refine dv 1 ?_
 refine y0y (id := 3) rfl rfl rfl (x3x (id := 4) v0v q0q rfl (dv 4 fun K K' => ?_))
 refine x4x (ι := List La × Bool) (fun p γ1 => [(3, .pv (.bool (p.2)))]) (fun p γ1 => [(0, ((γ 0), .row 44 5 ((p.1).map (q7q true))))]) (fun p => (p.2 = true → w2w n p.1 = w2w n n.lanes) ∧ (p.2 = false → p.1 = w2w n n.lanes) ∧ wk (nl n p.1)) (fun p => 2 * c8d p.1 + p.2.toNat) (q8q [1, 2] rfl) (a0o [1, 2, 3, 4] rfl) (n.lanes, true) ⟨fun _ => rfl, fun h => (by cases h), hw⟩ [] x6x x5x rfl fun p γ1 hi => ?_
 obtain ⟨ls, q⟩ := p
 obtain ⟨h1, h2, h3⟩ := hi
 dsimp only at h1 h2 h3 ⊢
 refine dc 3 (fun K K' => aS ?_ ?_)<;>intro hc3<;>try simp at hc3
 ·have hq : q = false := by simpa using hc3
  subst hq
  have hfin : ls = w2w n n.lanes := h2 rfl
  refine dv 4 ?_
  subst hfin
  refine dv 1 ?_
  exact ⟨[γ 0, γ 1, γ 2], rfl, rfl, x5x⟩
 have hq : q = true := hc3
 subst hq
 refine dv 7 ?_
 refine x4x (ι := Nat) (fun i γ2 => [(3, .pv (.bool (a9x n ls i))), (4, pI (i : Int))]) (fun i γ2 => [(0, ((γ 0), .row 44 5 ((a1c n ls i).map (q7q true))))]) (fun i => i ≤ ls.length) (fun i => ls.length - i) (q8q [1, 2] rfl) (a0o [1, 2, 3, 4] rfl) 0 (by omega) [] (Cov.cons' (t := 3) rfl (rfl) (x7x 4 rfl Cov.nil)) x5x rfl fun i γ2 hi => ?_
 refine dc 7 (fun K K' => aS ?_ ?_)<;>intro o<;>try simp at o
 ·have hpl : (a1c n ls i).length = ls.length := b9l n ls i
  obtain rfl : i = ls.length := by omega
  refine dv 1 ?_
  exact ⟨(a1c n ls ls.length, a9x n ls ls.length), ⟨⟨fun h => (c2u h).trans (h1 rfl), fun h => (b5r h).trans (h1 rfl), b7k h3 _⟩, (e3i n ls ls.length)⟩, [], x6x, x6x, x5x, x5x, rfl⟩
 have hpl : (a1c n ls i).length = ls.length := b9l n ls i
 obtain ⟨l, hp⟩ := gE (a1c n ls i) i
 have h4 := b7k h3 i
 have h41 : (a1c n ls i).length ≤ 4 := h4.1
 have hb4 := h4.2.2.2.2.1 l (List.mem_of_getElem? hp)
 refine dv 7 fun K K' => ?_
 refine z0z (j := i) rfl rfl a7u rfl a0l rfl rfl (y8y hp) ?_
 refine dv 5 ?_
 refine z0z (j := i) rfl rfl a7u rfl a0l rfl rfl (y8y hp) ?_
 refine dv 2 ?_
 refine b4a rfl rfl rfl (c4z (n := nl n (a1c n ls i)) rfl rfl rfl (.cl rfl .nil)) (a4x false (nl n (a1c n ls i)) l.proc (d4z h4) (by have := h4.1; omega) h4.2.2.1) (b1y _) ?_
 refine x0x rfl rfl rfl (b0u true true l (a1f (nl n (a1c n ls i)) l.proc)) ?_
 refine dv 6 ?_
 refine z0z (j := i) rfl rfl a7u rfl a0l rfl rfl (y8y hp) ?_
 refine dc 4 (aS ?_ ?_)<;>intro o<;>try simp at o
 ·have hk := c9z (n := n) hp (by show ¬ same l.done (a1f (nl n (a1c n ls i)) l.proc) < l.done.length; omega)
  refine dv 3 ?_
  refine z8z rfl rfl rfl (dv 1 ?_)
  exact ⟨i + 1, ⟨by omega, by omega⟩, [], (Cov.cons' (t := 3) rfl (by rw [b1w, hk.2, Bool.or_false]) (Cov.cons' (t := 4) rfl (by rw [x9x (by omega) (by omega)]; rfl) Cov.nil)), x6x, (HE.row rfl (by rw [b1v, hk.1]) HE.nil), x5x, rfl⟩
 have hk := d5a (n := n) hp (by show same l.done (a1f (nl n (a1c n ls i)) l.proc) < l.done.length; omega)
 refine dv 7 ?_
 refine z0z (j := i) rfl rfl a7u rfl a0l rfl rfl (y8y hp) ?_
 refine dv 2 ?_
 refine x0x rfl rfl rfl (a3k true l 0 (keep n (a1c n ls i) l) (by omega) (by omega) (by have := f2e n (a1c n ls i) l; omega) (fun p hp => by have := hb4.2 p hp; omega)) ?_
 refine z0z (j := i) rfl rfl a7u rfl a0l rfl rfl (y8y hp) ?_
 refine v7v (el' := a1h l 0 (keep n (a1c n ls i) l)) rfl rfl a0l rfl rfl rfl hp rfl (s4s rfl) rfl rfl ?_
 refine dv 4 ?_
 refine z8z rfl rfl rfl (dv 1 ?_)
 exact ⟨i + 1, ⟨by omega, by omega⟩, [], (Cov.cons' (t := 3) rfl (by rw [b1w, hk.2, Bool.or_true]) (Cov.cons' (t := 4) rfl (by rw [x9x (by omega) (by omega)]; rfl) Cov.nil)), x6x, (HE.row rfl (by rw [b1v, hk.1]) HE.nil), x5x, rfl⟩
theorem b3l (c : Bool) (n m : Nd) (hn : wk n) (hm : wk m) (hid : n.id = m.id) (hv : 0 ≤ n.version ∧ n.version ≤ 9998) : Meth Tryz.prog 170 3 [0, 1, 2] [.agg (u2u c n), .agg [pI m.id, .pv (.bool m.up), pI m.inc, pI m.g, .ref 0 0, q2q true m.kept, r0r true m.outs, pI m.led, pI m.version, .ref 1 0, .ref 2 0, pI m.round, pI m.low]] [(0, (0, .row 44 5 ((m.lanes).map (q7q true)))), (1, (0, .row 190 3 ((m.views).map (a2c true)))), (2, (0, .row 3 1 (m.known.map a2w)))] (.agg [pI ({ m with version := a4h n m 3 } : Nd).id, .pv (.bool ({ m with version := a4h n m 3 } : Nd).up), pI ({ m with version := a4h n m 3 } : Nd).inc, pI ({ m with version := a4h n m 3 } : Nd).g, .ref 0 0, q2q true ({ m with version := a4h n m 3 } : Nd).kept, r0r true ({ m with version := a4h n m 3 } : Nd).outs, pI ({ m with version := a4h n m 3 } : Nd).led, pI ({ m with version := a4h n m 3 } : Nd).version, .ref 1 0, .ref 2 0, pI ({ m with version := a4h n m 3 } : Nd).round, pI ({ m with version := a4h n m 3 } : Nd).low]) [] := by
 refine mX Tryz.f170 [.agg [pI ({ m with version := a4h n m 3 } : Nd).id, .pv (.bool ({ m with version := a4h n m 3 } : Nd).up), pI ({ m with version := a4h n m 3 } : Nd).inc, pI ({ m with version := a4h n m 3 } : Nd).g, .ref 0 0, q2q true ({ m with version := a4h n m 3 } : Nd).kept, r0r true ({ m with version := a4h n m 3 } : Nd).outs, pI ({ m with version := a4h n m 3 } : Nd).led, pI ({ m with version := a4h n m 3 } : Nd).version, .ref 1 0, .ref 2 0, pI ({ m with version := a4h n m 3 } : Nd).round, pI ({ m with version := a4h n m 3 } : Nd).low]] 3 3 fun γ => ?_
 refine dv 1 ?_
 refine y0y (id := 3) rfl rfl rfl (y0y (id := 4) rfl rfl rfl (x3x (id := 5) v0v q0q rfl (dv 4 fun K K' => ?_)))
 refine x4x (ι := Nat) (fun k γ1 => [(5, pI (k : Int))]) (fun k γ1 => [(4, ((0 + 1), .box 65 [pI m.id, .pv (.bool m.up), pI m.inc, pI m.g, .ref 0 (γ 0), q2q true m.kept, r0r true m.outs, pI m.led, pI (a4h n m k), .ref 1 (γ 1), .ref 2 (γ 2), pI m.round, pI m.low]))]) (fun k => k ≤ 3) (fun k => 3 - k) (q8q [2, 3, 4] rfl) (a0o [0, 1, 2, 3, 5] rfl) 0 (by omega) [] x6x (HE.box rfl (by rfl) HE.nil) rfl fun k γ1 hi => ?_
 refine dc 4 (fun K K' => aS ?_ ?_)<;>intro o<;>try simp at o
 ·obtain rfl : k = 3 := by omega
  refine dv 5 ?_
  exact ⟨[γ 0, γ 1, γ 2], rfl, rfl, x5x⟩
 refine dc 9 (fun K K' => aS ?_ ?_)<;>intro hg5<;>try simp at hg5
 ·have hs : (k : Int) = m.id ∨ a1w n (k : Int) = a1w m (k : Int) := .inl hg5
  refine dv 12 ?_
  refine z8z rfl rfl rfl (dv 1 ?_)
  exact ⟨k + 1, ⟨by omega, by omega⟩, [], (Cov.cons' (t := 5) rfl (by rw [x9x (by omega) (by omega)]; rfl) Cov.nil), x6x, (HE.box rfl (by rw [e3j hid hs]) HE.nil), x5x, rfl⟩
 have hi0 : ¬ (k : Int) = m.id := hg5
 refine dv 2 ?_
 refine x0x rfl rfl rfl (a9n c n k (by omega) hn.2.2.2.1 (by have := c9y hn; omega) (by have := hn.1; omega)) ?_
 refine dv 2 ?_
 refine b4a rfl rfl rfl (c4z (n := ({ m with version := a4h n m k } : Nd)) rfl rfl rfl (.cl rfl .nil)) (a9n false ({ m with version := a4h n m k } : Nd) k (by omega) hm.2.2.2.1 (by have := c9y hm; show (r2r m).length ≤ 5000000; omega) (by have := hm.1; show m.lanes.length ≤ 1048576; omega)) (b1y _) ?_
 refine dv 0 ?_
 refine x0x rfl rfl rfl (c6v true true (a1w n (k : Int)) (a1w m (k : Int))) ?_
 refine dc 2 (aS ?_ ?_)<;>intro hc6<;>try simp at hc6
 ·have hs : (k : Int) = m.id ∨ a1w n (k : Int) = a1w m (k : Int) := .inr hc6
  refine dv 3 ?_
  refine z8z rfl rfl rfl (dv 1 ?_)
  exact ⟨k + 1, ⟨by omega, by omega⟩, [], (Cov.cons' (t := 5) rfl (by rw [x9x (by omega) (by omega)]; rfl) Cov.nil), x6x, (HE.box rfl (by rw [e3j hid hs]) HE.nil), x5x, rfl⟩
 have hd : ¬ a1w n (k : Int) = a1w m (k : Int) := hc6
 refine dv 3 ?_
 refine s5s (.int .i64 (n.version + 1)) rfl rfl rfl (a6p rfl rfl (by omega) (by omega)) ?_
 refine dv 4 ?_
 refine z8z rfl rfl rfl (dv 1 ?_)
 exact ⟨k + 1, ⟨by omega, by omega⟩, [], (Cov.cons' (t := 5) rfl (by rw [x9x (by omega) (by omega)]; rfl) Cov.nil), x6x, (HE.box rfl (by (rw [f2h hid hi0 hd] <;> rfl)) HE.nil), x5x, rfl⟩
end
section
theorem c5o (apps : List Ap) (n : Nd) (q : Int) (hn : ndI n) (hA : a7m apps) : MethE Tryz.prog 321 0 [a5t true apps, .agg (u2u true n), .pv (.int .i64 q)] [] (ι := Nd × Bool) (fun S' => ndI S'.1) (fun S' => []) (fun S' => .tup [.agg (u2u true S'.1), .pv (.bool (S'.2))]) (fun S' => []) := by
 refine mE (ι := Nd × Bool) Tryz.f321 (fun S' => [.agg (u2u true S'.1), .pv (.bool (S'.2))]) 0 10 fun γ => ?_
 have fK := hn.1
 have fS := fK.1
 have fB := w7w fS
 have fb := c0z fS
 have hb : ∀ a ∈ apps, ∀ r ∈ a.rules, r.ops.length ≤ 1048576 := fun a ha r hr => by obtain ⟨i, hi⟩ := List.getElem?_of_mem hr; have := ((hA.2 a ha).2 i r hi).2.1.2.1; omega
 refine dv 1 ?_
 refine y0y (id := 0) rfl rfl rfl (x3x (id := 1) v0v q0q rfl (dv 4 fun K K' => ?_))
 refine x0x rfl rfl rfl (p1p true n) (dc 1 (aI ?_ ?_))<;>intro hc2<;>try simp at hc2
 ·exact absurd fK (a1o (by simpa using hc2))
 refine dv 1 ?_
 refine a0i fun B X0 w0 => ?_
 refine txR 2 rfl rfl (dv 2 ?_)
 refine txM [] [] (c6t n q (by omega)) rfl rfl rfl rfl fun j hj => ?_
 refine txR 1 rfl rfl (dv 1 ?_)
 refine u3u rfl (dc 6 (fun K K' => aS ?_ ?_))<;>intro o<;>try simp at o
 ·refine dv 16 ?_
  refine rlM [7, 8, 9] [_, _, _] (y4y true n fb) rfl rfl rfl ?_
  refine dv 2 ?_
  (refine v9v (b := c0g true n.lanes) 1 4 rfl rfl rfl (.ref rfl (Le.ow_map _ (fun _ => rfl) (fun _ => rfl)) .nil) rfl rfl rfl rfl ?_; refine v9v (b := c1z true n.views) 1 9 rfl rfl rfl (.ref rfl (Le.ow_map _ (fun _ => rfl) (fun _ => rfl)) .nil) rfl rfl rfl rfl ?_; refine v9v (b := a4p true n.known) 1 10 rfl rfl rfl (.ref rfl (Le.ow_map _ (fun _ => rfl) (fun _ => rfl)) .nil) rfl rfl rfl rfl ?_)
  refine dv 1 ?_
  exact ⟨(n, false), hn, [], rfl, rfl, x5x⟩
 refine dv 1 ?_
 refine x0x rfl rfl rfl (b0i true apps hb) (dc 3 (aS ?_ ?_))<;>intro o<;>try simp at o
 ·refine dv 11 ?_
  refine rlM [7, 8, 9] [_, _, _] (y4y true n fb) rfl rfl rfl ?_
  refine dv 2 ?_
  (refine v9v (b := c0g true n.lanes) 1 4 rfl rfl rfl (.ref rfl (Le.ow_map _ (fun _ => rfl) (fun _ => rfl)) .nil) rfl rfl rfl rfl ?_; refine v9v (b := c1z true n.views) 1 9 rfl rfl rfl (.ref rfl (Le.ow_map _ (fun _ => rfl) (fun _ => rfl)) .nil) rfl rfl rfl rfl ?_; refine v9v (b := a4p true n.known) 1 10 rfl rfl rfl (.ref rfl (Le.ow_map _ (fun _ => rfl) (fun _ => rfl)) .nil) rfl rfl rfl rfl ?_)
  refine dv 1 ?_
  exact ⟨(n, false), hn, [], rfl, rfl, x5x⟩
 refine dc 4 (aS ?_ ?_)<;>intro o<;>try simp at o
 ·refine dv 7 ?_
  refine rlM [7, 8, 9] [_, _, _] (y4y true n fb) rfl rfl rfl ?_
  refine dv 2 ?_
  (refine v9v (b := c0g true n.lanes) 1 4 rfl rfl rfl (.ref rfl (Le.ow_map _ (fun _ => rfl) (fun _ => rfl)) .nil) rfl rfl rfl rfl ?_; refine v9v (b := c1z true n.views) 1 9 rfl rfl rfl (.ref rfl (Le.ow_map _ (fun _ => rfl) (fun _ => rfl)) .nil) rfl rfl rfl rfl ?_; refine v9v (b := a4p true n.known) 1 10 rfl rfl rfl (.ref rfl (Le.ow_map _ (fun _ => rfl) (fun _ => rfl)) .nil) rfl rfl rfl rfl ?_)
  refine dv 1 ?_
  exact ⟨(n, false), hn, [], rfl, rfl, x5x⟩
 refine dv 2 ?_
 refine x0x rfl rfl rfl (u7u ..) (dc 2 (aI ?_ ?_))<;>intro o<;>try simp at o
 ·refine dv 2 ?_
  refine rlM [7, 8, 9] [_, _, _] (y4y true n fb) rfl rfl rfl ?_
  refine dv 2 ?_
  (refine v9v (b := c0g true n.lanes) 1 4 rfl rfl rfl (.ref rfl (Le.ow_map _ (fun _ => rfl) (fun _ => rfl)) .nil) rfl rfl rfl rfl ?_; refine v9v (b := c1z true n.views) 1 9 rfl rfl rfl (.ref rfl (Le.ow_map _ (fun _ => rfl) (fun _ => rfl)) .nil) rfl rfl rfl rfl ?_; refine v9v (b := a4p true n.known) 1 10 rfl rfl rfl (.ref rfl (Le.ow_map _ (fun _ => rfl) (fun _ => rfl)) .nil) rfl rfl rfl rfl ?_)
  refine dv 1 ?_
  exact ⟨(n, false), hn, [], rfl, rfl, x5x⟩
 have hv9 : n.version < 9999 := by omega
 obtain ⟨i, l, hji, hl, hlp⟩ := hj.resolve_left (by omega)
 subst hji
 have hln := b9j fK hl
 have hp3 := (d3g hln.2.1).1
 obtain ⟨qn, rfl⟩ : ∃ qn : Nat, q = (qn : Int) := ⟨q.toNat, by omega⟩
 have hA4 := hA.1
 obtain ⟨a, ha⟩ := gE apps qn
 have hap := hA.2 a (List.mem_of_getElem? ha)
 have hv0 := fS.1.2.2.2.2.1.1
 refine dv 1 ?_
 refine d5f 12 (b6g v4v 0 12 rfl rfl ?_)
 refine dv 3 ?_
 refine v5v (out := .agg (b9m true a)) rfl a5y rfl ?_
 refine dv 4 ?_
 refine v5v (out := .agg (q7q true l)) rfl a0l rfl ?_
 refine dv 2 ?_
 refine x0x rfl rfl rfl (a4x true n (qn : Int) (b5p fS) (by omega) fS.2.2.2.2.2.1) ?_
 refine b6g v4v 16 1 rfl rfl ?_
 refine x3x (id := 2) a0l a6o rfl (b7o c2b (by rfl) [] [] (c5l a l (a1f n (qn : Int)) hap hln.2.1) rfl rfl rfl rfl (by decide) rfl rfl (by repeat (exact InH.nil)) (fun _ => (by (simp only [pI, a2f, a2h, c0f, gl, nx, a6x, Nat.beq]; rfl))) (fun _ => (by (simp only [pI, a2f, a2h, c0f, gl, nx, a6x, Nat.beq]; rfl))) (l, false) (by intro h; simp at h) fun r hr => ?_)
 refine b6h v4v 13 3 rfl rfl ?_
 refine dv 3 ?_
 refine b6h v4v 17 2 rfl rfl ?_
 refine dv 2 ?_
 refine c5e (by kernel_rfl) ?_
 refine dc 4 (fun K K' => aI ?_ ?_)<;>intro hc9<;>try simp at hc9
 ·refine dv 2 ?_
  refine rlM [7, 8, 9] [_, _, _] (y4y true n fb) rfl rfl rfl ?_
  refine dv 2 ?_
  (refine v9v (b := c0g true n.lanes) 1 4 rfl rfl rfl (.ref rfl (Le.ow_map _ (fun _ => rfl) (fun _ => rfl)) .nil) rfl rfl rfl rfl ?_; refine v9v (b := c1z true n.views) 1 9 rfl rfl rfl (.ref rfl (Le.ow_map _ (fun _ => rfl) (fun _ => rfl)) .nil) rfl rfl rfl rfl ?_; refine v9v (b := a4p true n.known) 1 10 rfl rfl rfl (.ref rfl (Le.ow_map _ (fun _ => rfl) (fun _ => rfl)) .nil) rfl rfl rfl rfl ?_)
  refine dv 1 ?_
  exact ⟨(n, false), hn, [], rfl, rfl, x5x⟩
 obtain ⟨p, hp1, hroom, hpb⟩ := hr hc9
 rw [hp1]
 have hwM := e8t (d2v fS) hl hroom hpb
 have hoM := e5g hn.2 hl hpb
 have hwA : wk (nl (nl n (n.lanes.set i (a2x l p))) (w2w (nl n (n.lanes.set i (a2x l p))) (nl n (n.lanes.set i (a2x l p))).lanes)) := c2v _ (Nat.le_refl _) hwM
 refine dv 3 ?_
 refine rlM [4, 5, 6] [_, _, _] (y4y true n fb) rfl rfl rfl ?_
 refine x3x (id := 3) v0v q0q rfl (dv 6 ?_)
 refine z0z (j := i) rfl rfl a7u rfl a0l rfl rfl (y8y hl) ?_
 refine v7v (el' := a2x l p) rfl rfl a0l rfl rfl rfl hl rfl (s4s rfl) rfl rfl ?_
 refine dv 3 ?_
 refine rlM [4, 5, 6] [_, _, _] (b5c (nl n (n.lanes.set i (a2x l p))) hwM) rfl rfl rfl ?_
 refine rlM [4, 5, 6] [_, _, _] (b3l true n (nl (nl n (n.lanes.set i (a2x l p))) (w2w (nl n (n.lanes.set i (a2x l p))) (nl n (n.lanes.set i (a2x l p))).lanes)) (d2v fS) hwA rfl ⟨hv0, by omega⟩) rfl rfl rfl ?_
 refine dv 2 fun K K' => ?_
 refine v9v (b := c0g true (a6t n (nl n (n.lanes.set i (a2x l p)))).lanes) 3 4 rfl rfl rfl (.ref rfl (Le.ow_map _ (fun _ => rfl) (fun _ => rfl)) .nil) rfl rfl rfl rfl ?_
 refine v9v (b := c1z true (a6t n (nl n (n.lanes.set i (a2x l p)))).views) 3 9 rfl rfl rfl (.ref rfl (Le.ow_map _ (fun _ => rfl) (fun _ => rfl)) .nil) rfl rfl rfl rfl ?_
 refine v9v (b := a4p true (a6t n (nl n (n.lanes.set i (a2x l p)))).known) 3 10 rfl rfl rfl (.ref rfl (Le.ow_map _ (fun _ => rfl) (fun _ => rfl)) .nil) rfl rfl rfl rfl ?_
 refine dv 2 ?_
 refine x0x rfl rfl rfl (p1p true (a6t n (nl n (n.lanes.set i (a2x l p))))) ?_
 refine dc 1 (aI ?_ ?_)<;>intro hc11<;>try simp at hc11
 ·refine dv 2 ?_
  refine rlM [7, 8, 9] [_, _, _] (y4y true n fb) rfl rfl rfl ?_
  refine dv 2 ?_
  (refine v9v (b := c0g true n.lanes) 1 4 rfl rfl rfl (.ref rfl (Le.ow_map _ (fun _ => rfl) (fun _ => rfl)) .nil) rfl rfl rfl rfl ?_; refine v9v (b := c1z true n.views) 1 9 rfl rfl rfl (.ref rfl (Le.ow_map _ (fun _ => rfl) (fun _ => rfl)) .nil) rfl rfl rfl rfl ?_; refine v9v (b := a4p true n.known) 1 10 rfl rfl rfl (.ref rfl (Le.ow_map _ (fun _ => rfl) (fun _ => rfl)) .nil) rfl rfl rfl rfl ?_)
  refine dv 1 ?_
  exact ⟨(n, false), hn, [], rfl, rfl, x5x⟩
 have fK2 : y5y (a6t n (nl n (n.lanes.set i (a2x l p)))) := a1e.1 (by simpa using hc11)
 have fb2 := c0z fK2.1
 refine dv 3 ?_
 refine rlM [7, 8, 9] [_, _, _] (y4y true (a6t n (nl n (n.lanes.set i (a2x l p)))) fb2) rfl rfl rfl ?_
 refine dv 2 ?_
 (refine v9v (b := c0g true (a6t n (nl n (n.lanes.set i (a2x l p)))).lanes) 1 4 rfl rfl rfl (.ref rfl (Le.ow_map _ (fun _ => rfl) (fun _ => rfl)) .nil) rfl rfl rfl rfl ?_; refine v9v (b := c1z true (a6t n (nl n (n.lanes.set i (a2x l p)))).views) 1 9 rfl rfl rfl (.ref rfl (Le.ow_map _ (fun _ => rfl) (fun _ => rfl)) .nil) rfl rfl rfl rfl ?_; refine v9v (b := a4p true (a6t n (nl n (n.lanes.set i (a2x l p)))).known) 1 10 rfl rfl rfl (.ref rfl (Le.ow_map _ (fun _ => rfl) (fun _ => rfl)) .nil) rfl rfl rfl rfl ?_)
 refine dv 1 ?_
 exact ⟨((a6t n (nl n (n.lanes.set i (a2x l p)))), true), ⟨fK2, c8j hoM⟩, [], rfl, rfl, x5x⟩
end
section
theorem b6n (c : Bool) (l : List Int) : a0q Tryz.prog 259 [a4p c l] (.pv (.bool (decide (c6p l)))) := by
 refine pX Tryz.f259 [.pv (.bool (decide (c6p l)))] 0 ?_
 refine u0u 0 rfl fun hlen => ?_
 refine dc 8 (fun K K' => aS ?_ ?_)<;>intro o<;>try simp at o
 ·refine dv 4 ?_
  have hL : l.length = 0 ∨ l.length = 3 := by (simp_all; done)
  refine dv 5 fun K K' => ?_
  refine x4x (ι := Nat) (fun i γ2 => [(3, pI (i : Int))]) (fun i γ2 => []) (fun i => i ≤ l.length ∧ c9q l (fun _ v => 0 ≤ v ∧ v ≤ 9999) i) (fun i => l.length - i) (x7x 0 rfl Cov.nil) HE.nil 0 ⟨by omega, a1p⟩ [] x6x x5x rfl fun i γ2 hi => ?_
  obtain ⟨h1, h2⟩ := hi
  refine dc 6 (fun K K' => aS ?_ ?_)<;>intro o<;>try simp at o
  ·have hall := a3c h2 (by omega)
   refine dv 4 ?_
   refine x2x rfl ?_ rfl
   exact kT ⟨hL, fun v hv => by obtain ⟨i, hi⟩ := List.getElem?_of_mem hv; exact hall i v hi⟩
  obtain ⟨v, hv⟩ := gE l i
  refine dv 8 fun K K' => ?_
  refine x0x rfl rfl rfl (u7u ..) (x0x rfl rfl rfl (z1z ..) (dc 1 (aS ?_ ?_)))<;>intro o<;>try simp at o
  ·have hb : 0 ≤ v ∧ v ≤ 9999 := by omega
   refine dv 3 ?_
   refine x8x (b := 1) rfl rfl (by omega) (dv 1 ?_)
   exact ⟨i + 1, ⟨⟨by omega, s6s h2 hv hb⟩, by omega⟩, [], x6x, x6x, x5x, x5x, rfl⟩
  have hX2 : ¬ (0 ≤ v ∧ v ≤ 9999) := by omega
  refine dv 3 ?_
  refine x2x rfl ?_ rfl
  exact kF (fun h => hX2 (h.2 v (List.mem_of_getElem? hv)))
 refine dc 4 (aI ?_ ?_)<;>intro o<;>try simp at o
 ·have hX : ¬ (l.length = 0 ∨ l.length = 3) := by (rintro (h | h); exact absurd (List.length_eq_zero_iff.1 h) ‹_›; omega)
  refine dv 3 ?_
  refine x2x rfl ?_ rfl
  exact kF (fun h => hX h.1)
 have hL : l.length = 0 ∨ l.length = 3 := by omega
 refine dv 5 fun K K' => ?_
 refine x4x (ι := Nat) (fun i γ1 => [(3, pI (i : Int))]) (fun i γ1 => []) (fun i => i ≤ l.length ∧ c9q l (fun _ v => 0 ≤ v ∧ v ≤ 9999) i) (fun i => l.length - i) (x7x 0 rfl Cov.nil) HE.nil 0 ⟨by omega, a1p⟩ [] x6x x5x rfl fun i γ1 hi => ?_
 obtain ⟨h1, h2⟩ := hi
 refine dc 6 (fun K K' => aS ?_ ?_)<;>intro o<;>try simp at o
 ·have hall := a3c h2 (by omega)
  refine dv 4 ?_
  refine x2x rfl ?_ rfl
  exact kT ⟨hL, fun v hv => by obtain ⟨i, hi⟩ := List.getElem?_of_mem hv; exact hall i v hi⟩
 obtain ⟨v, hv⟩ := gE l i
 refine dv 8 fun K K' => ?_
 refine x0x rfl rfl rfl (u7u ..) (x0x rfl rfl rfl (z1z ..) (dc 1 (aS ?_ ?_)))<;>intro o<;>try simp at o
 ·have hb : 0 ≤ v ∧ v ≤ 9999 := by omega
  refine dv 3 ?_
  refine x8x (b := 1) rfl rfl (by omega) (dv 1 ?_)
  exact ⟨i + 1, ⟨⟨by omega, s6s h2 hv hb⟩, by omega⟩, [], x6x, x6x, x5x, x5x, rfl⟩
 have hX2 : ¬ (0 ≤ v ∧ v ≤ 9999) := by omega
 refine dv 3 ?_
 refine x2x rfl ?_ rfl
 exact kF (fun h => hX2 (h.2 v (List.mem_of_getElem? hv)))
theorem b2z (c : Bool) (w : Wo) : a0q Tryz.prog 182 [.agg (w0w c w)] (.pv (.bool (decide (a4n w)))) := by
 refine pX Tryz.f182 [.pv (.bool (decide (a4n w)))] 1 ?_
 refine dv 1 ?_
 refine y0y (id := 0) rfl rfl rfl (dv 4 ?_)
 refine x0x rfl rfl rfl (z1z ..) (dc 1 (aS ?_ ?_))<;>intro o<;>try simp at o
 ·have hX : ¬ a6f w := by unfold a6f; omega
  refine dv 54 ?_
  refine x2x rfl ?_ rfl
  exact kF (fun h => hX h.1)
 refine dv 2 ?_
 refine x0x rfl rfl rfl (z1z ..) (dc 2 (aS ?_ ?_))<;>intro o<;>try simp at o
 ·have hX : ¬ a6f w := by unfold a6f; omega
  refine dv 49 ?_
  refine x2x rfl ?_ rfl
  exact kF (fun h => hX h.1)
 refine dv 2 ?_
 refine x0x rfl rfl rfl (z1z ..) (dc 2 (aS ?_ ?_))<;>intro o<;>try simp at o
 ·have hX : ¬ a6f w := by unfold a6f; omega
  refine dv 44 ?_
  refine x2x rfl ?_ rfl
  exact kF (fun h => hX h.1)
 refine dv 2 ?_
 refine x0x rfl rfl rfl (u7u ..) (dv 0 ?_)
 refine x0x rfl rfl rfl (z1z ..) (dc 2 (aS ?_ ?_))<;>intro o<;>try simp at o
 ·have hX : ¬ a6f w := by unfold a6f; omega
  refine dv 38 ?_
  refine x2x rfl ?_ rfl
  exact kF (fun h => hX h.1)
 refine dv 2 ?_
 refine x0x rfl rfl rfl (u7u ..) (dv 0 ?_)
 refine x0x rfl rfl rfl (z1z ..) (dc 2 (aS ?_ ?_))<;>intro o<;>try simp at o
 ·have hX : ¬ a6f w := by unfold a6f; omega
  refine dv 32 ?_
  refine x2x rfl ?_ rfl
  exact kF (fun h => hX h.1)
 refine dv 2 ?_
 refine x0x rfl rfl rfl (u7u ..) (dv 0 ?_)
 refine x0x rfl rfl rfl (z1z ..) (dc 2 (aS ?_ ?_))<;>intro o<;>try simp at o
 ·have hX : ¬ a6f w := by unfold a6f; omega
  refine dv 26 ?_
  refine x2x rfl ?_ rfl
  exact kF (fun h => hX h.1)
 refine dv 2 ?_
 refine x0x rfl rfl rfl (z1z ..) (dc 2 (aS ?_ ?_))<;>intro o<;>try simp at o
 ·have hX : ¬ a6f w := by unfold a6f; omega
  refine dv 21 ?_
  refine x2x rfl ?_ rfl
  exact kF (fun h => hX h.1)
 have hN : a6f w := by unfold a6f; omega
 refine dv 2 ?_
 refine x0x rfl rfl rfl (b6n ..) (dc 2 (aS ?_ ?_))<;>intro hg8<;>try simp at hg8
 ·have hX1 : ¬ c6p w.incs := hg8
  refine dv 16 ?_
  refine x2x rfl ?_ rfl
  exact kF (fun h => hX1 h.2.1)
 have hI : c6p w.incs := hg8
 refine dv 2 ?_
 refine x0x rfl rfl rfl (b6n ..) (dc 2 (aS ?_ ?_))<;>intro hg9<;>try simp at hg9
 ·have hX2 : ¬ c6p w.versions := hg9
  refine dv 11 ?_
  refine x2x rfl ?_ rfl
  exact kF (fun h => hX2 h.2.2.1)
 have hV : c6p w.versions := hg9
 refine dv 2 ?_
 refine x0x rfl rfl rfl (a4k ..) (dv 0 ?_)
 refine x0x rfl rfl rfl (a4d ..) (dc 2 (aS ?_ ?_))<;>intro hg10<;>try simp at hg10
 ·have hX3 : ¬ a9f okE a2r w.events 100 = true := by simpa using hg10
  refine dv 5 ?_
  refine x2x rfl ?_ rfl
  exact kF (fun h => hX3 h.2.2.2.1)
 have hE : a9f okE a2r w.events 100 = true := hg10
 refine dv 2 ?_
 refine x0x rfl rfl rfl (a8o ..) (dv 3 ?_)
 refine x2x rfl ?_ rfl
 exact congrArg (fun b : Bool => [AV.pv (.bool b)]) (Bool.eq_iff_iff.2 ⟨fun h => decide_eq_true ⟨hN, hI, hV, hE, h⟩, fun h => (of_decide_eq_true h).2.2.2.2⟩)
theorem a4y (c : Bool) (w : Wo) (hb : wob w) : a0q Tryz.prog 331 [.agg (w0w c w)] (.agg (w0w true w)) := by
 refine pX Tryz.f331 [.agg (w0w true w)] 10 ?_
 obtain ⟨b1, b2, b3, b4⟩ := hb
 refine dv 1 ?_
 refine y0y (id := 0) rfl rfl rfl (x3x (id := 1) p0p b1k rfl (dv 1 ?_))
 refine y1y (id := 2) a0n rfl s3s rfl (dv 2 ?_)
 refine a2d v4v (zs := (w.incs).map a2w) rfl rfl a0n rfl s3s rfl rfl rfl (z9z (fun _ => rfl) _) rfl (by (simp only [a0e, r7r, a0c, a0d, a0r, a2y, T3]; omega)) (Le.ow_map _ (fun _ => rfl) (fun _ => rfl)) ?_
 refine dv 3 ?_
 refine y1y (id := 4) a0n rfl s3s rfl (dv 2 ?_)
 refine a2d v4v (zs := (w.versions).map a2w) rfl rfl a0n rfl s3s rfl rfl rfl (z9z (fun _ => rfl) _) rfl (by (simp only [a0e, r7r, a0c, a0d, a0r, a2y, T3]; omega)) (Le.ow_map _ (fun _ => rfl) (fun _ => rfl)) ?_
 refine dv 3 ?_
 refine y1y (id := 6) u4u rfl z2z rfl (dv 2 ?_)
 refine a2d v4v (zs := (w.events).map y9y) rfl rfl u4u rfl z2z rfl rfl rfl (z9z (fun _ => rfl) _) rfl (by (simp only [a0e, r7r, a0c, a0d, a0r, a2y, T56]; omega)) (Le.ow_map _ (fun _ => rfl) (fun _ => rfl)) ?_
 refine dv 3 ?_
 refine y1y (id := 8) a0x rfl w9w rfl (dv 2 ?_)
 refine a2d v4v (zs := (w.outs).map q5q) rfl rfl a0x rfl w9w rfl rfl rfl (z9z (fun _ => rfl) _) rfl (by (simp only [a0e, r7r, a0c, a0d, a0r, a2y, T141]; omega)) (Le.ow_map _ (fun _ => rfl) (fun _ => rfl)) ?_
 refine dv 6 ?_
 exact b0q rfl rfl rfl rfl
theorem b0v (c : Bool) (l : List Wo) (k : Int) : a0q Tryz.prog 333 [w6w c l, .pv (.int .i64 k)] (.pv (.bool (kb (b3t l k ∧ (k = 3 → ∀ w ∈ l, a9z w))))) := by
 refine pX Tryz.f333 [.pv (.bool (kb (b3t l k ∧ (k = 3 → ∀ w ∈ l, a9z w))))] 0 ?_
 refine u0u 0 rfl fun hlen => ?_
 refine dv 6 fun K K' => ?_
 refine x4x (ι := Nat) (fun i γ1 => [(5, pI (i : Int))]) (fun i γ1 => []) (fun i => i ≤ l.length ∧ c9q l (fun j w => a4n w ∧ w.kind = k ∧ (∀ p, 0 < j → l[j - 1]? = some p → p.from' < w.from') ∧ (k = 3 → a9z w)) i) (fun i => l.length - i) (q8q [0, 1] rfl) HE.nil 0 ⟨by omega, a1p⟩ [] x6x x5x rfl fun i γ1 hi => ?_
 obtain ⟨h1, h2⟩ := hi
 refine dc 6 (fun K K' => aS ?_ ?_)<;>intro o<;>try simp at o
 ·have hall := a3c h2 (by omega)
  refine dv 4 ?_
  refine x2x rfl ?_ rfl
  exact congrArg (fun b : Bool => [AV.pv (.bool b)]) (e5z ⟨fun j w hw => ⟨(hall j w hw).1, (hall j w hw).2.1, (hall j w hw).2.2.1⟩, fun e w hw => by obtain ⟨j, hj⟩ := List.getElem?_of_mem hw; exact (hall j w hj).2.2.2 e⟩)
 obtain ⟨w, hw⟩ := gE l i
 refine dv 8 fun K K' K K' => ?_
 refine v5v (out := .agg (w0w c w)) rfl p0p rfl ?_
 refine x0x rfl rfl rfl (b2z ..) (dc 2 (aS ?_ ?_))<;>intro hg6<;>try simp at hg6
 ·have hX : ¬ a4n w := hg6
  refine dv 26 ?_
  try have hXo : ¬ p.from' < w.from' := by omega
  refine dv 3 ?_
  refine x2x rfl ?_ rfl
  exact congrArg (fun b : Bool => [AV.pv (.bool b)]) (a4g (fun h => hX (h.1 i w hw).1))
 have hW : a4n w := hg6
 refine dc 9 (aS ?_ ?_)<;>intro hg7<;>try simp at hg7
 ·try have hXk : ¬ w.kind = k := hg7
  refine dv 17 ?_
  try have hXo : ¬ p.from' < w.from' := by omega
  refine dv 3 ?_
  refine x2x rfl ?_ rfl
  exact congrArg (fun b : Bool => [AV.pv (.bool b)]) (a4g (fun h => hXk (h.1 i w hw).2.1))
 have hk : w.kind = k := hg7
 refine dc 3 (aS ?_ ?_)<;>intro o<;>try simp at o
 ·have hi0 : i = 0 := by omega
  have hO : ∀ p, 0 < i → l[i - 1]? = some p → p.from' < w.from' := fun p h => by omega
  refine dv 14 ?_
  try have hO : ∀ p, 0 < i → l[i - 1]? = some p → p.from' < w.from' := fun p2 _ h => by rw [hp] at h; cases h; omega
  refine dc 5 (aS ?_ ?_)<;>intro o<;>try simp at o
  ·refine dv 17 ?_
   have hF : k = 3 → a9z w := by intro _; exact ⟨by omega, by omega⟩
   refine dv 3 ?_
   refine x8x (b := 1) rfl rfl (by omega) (dv 1 ?_)
   exact ⟨i + 1, ⟨⟨by omega, s6s h2 hw ⟨hW, hk, hO, hF⟩⟩, by omega⟩, [], x6x, x6x, x5x, x5x, rfl⟩
  refine dc 8 (aS ?_ ?_)<;>intro o<;>try simp at o
  ·refine dv 9 ?_
   have hX5 : ¬ (k = 3 → a9z w) := fun h => by have := h (by omega); unfold a9z at this; omega
   refine dv 3 ?_
   refine x2x rfl ?_ rfl
   exact congrArg (fun b : Bool => [AV.pv (.bool b)]) (a4g (fun h => hX5 (fun e => h.2 e w (List.mem_of_getElem? hw))))
  refine dc 9 (aS ?_ ?_)<;>intro o<;>try simp at o
  ·have hF : k = 3 → a9z w := by intro _; exact ⟨by omega, by omega⟩
   refine dv 3 ?_
   refine x8x (b := 1) rfl rfl (by omega) (dv 1 ?_)
   exact ⟨i + 1, ⟨⟨by omega, s6s h2 hw ⟨hW, hk, hO, hF⟩⟩, by omega⟩, [], x6x, x6x, x5x, x5x, rfl⟩
  have hX5 : ¬ (k = 3 → a9z w) := fun h => by have := h (by omega); unfold a9z at this; omega
  refine dv 3 ?_
  refine x2x rfl ?_ rfl
  exact congrArg (fun b : Bool => [AV.pv (.bool b)]) (a4g (fun h => hX5 (fun e => h.2 e w (List.mem_of_getElem? hw))))
 obtain ⟨p, hp⟩ := gE l (i - 1)
 refine dv 2 ?_
 refine p5p (b := 1) rfl rfl (by omega) (by omega) (dc 11 (aI ?_ ?_))<;>intro o<;>try simp at o
 ·try have hXo : ¬ p.from' < w.from' := by omega
  refine dv 3 ?_
  refine x2x rfl ?_ rfl
  exact congrArg (fun b : Bool => [AV.pv (.bool b)]) (a4g (fun h => hXo ((h.1 i w hw).2.2 p (by omega) hp)))
 try have hO : ∀ p, 0 < i → l[i - 1]? = some p → p.from' < w.from' := fun p2 _ h => by rw [hp] at h; cases h; omega
 refine dc 5 (aS ?_ ?_)<;>intro o<;>try simp at o
 ·refine dv 17 ?_
  have hF : k = 3 → a9z w := by intro _; exact ⟨by omega, by omega⟩
  refine dv 3 ?_
  refine x8x (b := 1) rfl rfl (by omega) (dv 1 ?_)
  exact ⟨i + 1, ⟨⟨by omega, s6s h2 hw ⟨hW, hk, hO, hF⟩⟩, by omega⟩, [], x6x, x6x, x5x, x5x, rfl⟩
 refine dc 8 (aS ?_ ?_)<;>intro o<;>try simp at o
 ·refine dv 9 ?_
  have hX5 : ¬ (k = 3 → a9z w) := fun h => by have := h (by omega); unfold a9z at this; omega
  refine dv 3 ?_
  refine x2x rfl ?_ rfl
  exact congrArg (fun b : Bool => [AV.pv (.bool b)]) (a4g (fun h => hX5 (fun e => h.2 e w (List.mem_of_getElem? hw))))
 refine dc 9 (aS ?_ ?_)<;>intro o<;>try simp at o
 ·have hF : k = 3 → a9z w := by intro _; exact ⟨by omega, by omega⟩
  refine dv 3 ?_
  refine x8x (b := 1) rfl rfl (by omega) (dv 1 ?_)
  exact ⟨i + 1, ⟨⟨by omega, s6s h2 hw ⟨hW, hk, hO, hF⟩⟩, by omega⟩, [], x6x, x6x, x5x, x5x, rfl⟩
 have hX5 : ¬ (k = 3 → a9z w) := fun h => by have := h (by omega); unfold a9z at this; omega
 refine dv 3 ?_
 refine x2x rfl ?_ rfl
 exact congrArg (fun b : Bool => [AV.pv (.bool b)]) (a4g (fun h => hX5 (fun e => h.2 e w (List.mem_of_getElem? hw))))
theorem b0j (c : Bool) (h : Hb) : a0q Tryz.prog 323 [.agg (a8l c h)] (.pv (.bool (kb (a0w h)))) := by
 refine pX Tryz.f323 [.pv (.bool (kb (a0w h)))] 1 ?_
 refine dv 1 ?_
 refine y0y (id := 0) rfl rfl rfl (dv 4 ?_)
 refine x0x rfl rfl rfl (u7u ..) (x0x rfl rfl rfl (z1z ..) (dc 1 (aS ?_ ?_)))<;>intro o<;>try simp at o
 ·have hX : ¬ (0 ≤ h.round ∧ h.round ≤ 9999) := by omega
  refine dv 15 ?_
  refine x2x rfl ?_ rfl
  exact congrArg (fun b : Bool => [AV.pv (.bool b)]) (a4g (fun h => hX h.1))
 have hR : 0 ≤ h.round ∧ h.round ≤ 9999 := by omega
 refine dv 2 ?_
 refine x0x rfl rfl rfl (b0v ..) (dc 2 (aS ?_ ?_))<;>intro hg2<;>try simp at hg2
 ·have hX1 : ¬ (b3t h.ones 3 ∧ ((3 : Int) = 3 → ∀ w ∈ h.ones, a9z w)) := a1o (by simpa using hg2)
  refine dv 10 ?_
  refine x2x rfl ?_ rfl
  exact congrArg (fun b : Bool => [AV.pv (.bool b)]) (a4g (fun h => hX1 ⟨h.2.1, fun _ => h.2.2.2.2⟩))
 have h1 : b3t h.ones 3 ∧ ((3 : Int) = 3 → ∀ w ∈ h.ones, a9z w) := a1e.1 (by simpa using hg2)
 refine dv 2 ?_
 refine x0x rfl rfl rfl (b0v ..) (dc 2 (aS ?_ ?_))<;>intro hg3<;>try simp at hg3
 ·have hX2 : ¬ (b3t h.twos 5 ∧ ((5 : Int) = 3 → ∀ w ∈ h.twos, a9z w)) := a1o (by simpa using hg3)
  refine dv 5 ?_
  refine x2x rfl ?_ rfl
  exact congrArg (fun b : Bool => [AV.pv (.bool b)]) (a4g (fun h => hX2 ⟨h.2.2.1, fun e => by omega⟩))
 have h2 : b3t h.twos 5 ∧ ((5 : Int) = 3 → ∀ w ∈ h.twos, a9z w) := a1e.1 (by simpa using hg3)
 refine dv 2 ?_
 refine x0x rfl rfl rfl (b0v ..) (dv 3 ?_)
 refine x2x rfl ?_ rfl
 exact congrArg (fun b : Bool => [AV.pv (.bool b)]) (congrArg kb (propext ⟨fun h => ⟨hR, h1.1, h2.1, h.1, h1.2 rfl⟩, fun h => ⟨h.2.2.2.1, fun e => by omega⟩⟩))
end
section
theorem a9o (c : Bool) (l : List Wo) (hb : ∀ w ∈ l, wob w) (hl : l.length ≤ 1000000) : a0q Tryz.prog 334 [w6w c l] (w6w true l) := by
 refine pX Tryz.f334 [w6w true l] 3 ?_
 refine dv 3 ?_
 refine y1y (id := 0) r8r rfl p0p rfl (dv 5 fun K K' => ?_)
 refine x4x (ι := Nat) (fun i γ1 => [(3, .ref 0 (γ1 0)), (4, pI (i : Int))]) (fun i γ1 => [(0, ((γ1 0), .row 79 11 ((l.take i).map (w0w true)))), (1, ((γ1 1), .dead)), (2, ((γ1 2), .dead))]) (fun i => i ≤ l.length) (fun i => l.length - i) (x7x 0 rfl Cov.nil) HE.nil 0 (by omega) [_, _, _] x6x (HE.row rfl (by rw [List.take_zero]; rfl) (HE.kill rfl (HE.kill rfl HE.nil))) rfl fun i γ1 hi => ?_
 refine dc 6 (fun K K' => aS ?_ ?_)<;>intro u<;>try simp at u
 ·obtain rfl : i = l.length := by omega
  refine dv 5 ?_
  refine a5h rfl rfl (fun _ => rfl) ?_
  rw [List.take_length]
 obtain ⟨w, hw⟩ := gE l i
 have hwb := hb w (List.mem_of_getElem? hw)
 refine dv 8 fun K K' => ?_
 refine v5v (out := .agg (w0w c w)) rfl p0p rfl ?_
 refine x0x rfl rfl rfl (a4y c w hwb) (y3y (id := 1) r8r rfl p0p rfl rfl rfl rfl rfl rfl ?_)
 refine y6y (zs := (l.take i ++ [w]).map (w0w true)) rfl rfl r8r rfl p0p rfl rfl rfl rfl (by rfl) (z7z _ _ _) (by (simp only [a0e, r7r, a0c, a0d, a0r, a2y, T79]; omega)) ?_
 refine dv 3 ?_
 refine z8z rfl rfl rfl (dv 1 ?_)
 exact ⟨i + 1, ⟨by omega, by omega⟩, [_, _, _], (x7x 3 rfl (Cov.cons' (t := 4) rfl (by rw [x9x (by omega) (by omega)]; rfl) Cov.nil)), x6x, (HE.row rfl (by rw [z6z hw]) (HE.kill rfl (HE.kill rfl HE.nil))), x5x, rfl⟩
theorem a3l (c : Bool) (h : Hb) (hk : a0w h) : a0q Tryz.prog 324 [.agg (a8l c h)] (.agg (a8l true h)) := by
 refine pX Tryz.f324 [.agg (a8l true h)] 2 ?_
 have e1 := b7p hk.2.1
 have e2 := b7p hk.2.2.1
 have e3 := b7p hk.2.2.2.1
 refine dv 1 ?_
 refine y0y (id := 0) rfl rfl rfl (x3x (id := 1) a7g b6z rfl (dv 5 ?_))
 refine x0x rfl rfl rfl (a9o c h.ones (d5l hk.2.1) (by omega)) ?_
 refine dv 2 ?_
 refine x0x rfl rfl rfl (a9o c h.twos (d5l hk.2.2.1) (by omega)) ?_
 refine dv 2 ?_
 refine x0x rfl rfl rfl (a9o c h.outs (d5l hk.2.2.2.1) (by omega)) ?_
 refine rlB a7g b6z ?_
 refine dv 2 ?_
 exact b0q rfl rfl rfl rfl
theorem a8p (l : List Wo) (w : Wo) (ag : Bool) (hl : l.length ≤ 1000000) : a0q Tryz.prog 330 [w6w true l, .agg (w0w true w), .pv (.bool (ag))] (w6w true (a7n w ag l false)) := by
 refine pX Tryz.f330 [w6w true (a7n w ag l false)] 10 ?_
 refine dv 1 ?_
 refine y0y (id := 0) rfl rfl rfl (dv 2 ?_)
 refine y1y (id := 1) r8r rfl p0p rfl (dv 7 fun K K' => ?_)
 refine x4x (ι := List Wo × Bool × Nat) (fun p γ1 => [(7, .ref 1 (γ1 1)), (8, .pv (.bool (p.2.1))), (9, pI (p.2.2 : Int))]) (fun p γ1 => [(1, ((γ1 1), .row 79 11 ((p.1).map (w0w true)))), (2, ((γ1 2), .dead)), (3, ((γ1 3), .dead)), (4, ((γ1 4), .dead)), (5, ((γ1 5), .dead)), (6, ((γ1 6), .dead)), (7, ((γ1 7), .dead))]) (fun p => p.2.2 ≤ l.length ∧ p.1.length ≤ 2 * p.2.2 ∧ p.1 ++ a7n w ag (l.drop p.2.2) p.2.1 = a7n w ag l false) (fun p => l.length - p.2.2) (q8q [0, 2, 4] rfl) (a0o [0, 8, 9] rfl) ([], false, 0) ⟨by show 0 ≤ _; omega, by show 0 ≤ _; omega, rfl⟩ [0, _, _, _, _, _, _, _] x6x x5x rfl fun p γ1 hi => ?_
 obtain ⟨o, d, i⟩ := p
 obtain ⟨h1, h2, h3⟩ := hi
 dsimp only at h1 h2 h3 ⊢
 refine dc 6 (fun K K' => aS ?_ ?_)<;>intro u<;>try simp at u
 ·obtain rfl : i = l.length := by omega
  rw [List.drop_length] at h3
  refine dc 5 (fun K K' => aS ?_ ?_)<;>intro hc15<;>try simp at hc15
  ·obtain rfl : d = true := hc15
   refine dv 5 ?_
   refine a5h rfl rfl (fun _ => rfl) ?_
   (rw [← h3]; exact (List.append_nil _).symm)
  obtain rfl : d = false := hc15
  refine dv 3 ?_
  refine y3y (id := 8) r8r rfl p0p rfl rfl rfl rfl rfl rfl ?_
  refine y6y (zs := (o ++ [w]).map (w0w true)) rfl rfl r8r rfl p0p rfl rfl rfl rfl (by rfl) (z7z _ _ _) (by (simp only [a0e, r7r, a0c, a0d, a0r, a2y, T79]; omega)) ?_
  refine dv 5 ?_
  refine a5h rfl rfl (fun _ => rfl) ?_
  exact h3
 obtain ⟨x, hx⟩ := gE l i
 refine dc 13 (fun K K' K K' => aI ?_ ?_)<;>intro hc6<;>try simp at hc6
 ·have hq : x.from' = w.from' := hc6
  refine dc 4 (aI ?_ ?_)<;>intro hc7<;>try simp at hc7
  ·obtain rfl : ag = true := hc7
   have hN : i + 1 ≤ l.length ∧ (o ++ [w]).length ≤ 2 * (i + 1) ∧ (o ++ [w]) ++ a7n w true (l.drop (i + 1)) true = a7n w true l false := ⟨by omega, by simp only [r7r, a0c, a0d]; omega, b2y h3 (by rw [p6p hx]; exact f5u hq)⟩
   refine dv 3 ?_
   refine y3y (id := 2) r8r rfl p0p rfl rfl rfl rfl rfl rfl ?_
   refine y6y (zs := (o ++ [w]).map (w0w true)) rfl rfl r8r rfl p0p rfl rfl rfl rfl (by rfl) (z7z _ _ _) (by (simp only [a0e, r7r, a0c, a0d, a0r, a2y, T79]; omega)) ?_
   refine dv 4 ?_
   refine x8x (b := 1) rfl rfl (by omega) (dv 1 ?_)
   exact ⟨(_, _, _), ⟨hN, (by show l.length - (i + 1) < l.length - i; omega)⟩, [0, _, _, _, _, _, _, _], x6x, x6x, x5x, x5x, rfl⟩
  obtain rfl : ag = false := hc7
  have hN : i + 1 ≤ l.length ∧ (o ++ [x]).length ≤ 2 * (i + 1) ∧ (o ++ [x]) ++ a7n w false (l.drop (i + 1)) true = a7n w false l false := ⟨by omega, by simp only [r7r, a0c, a0d]; omega, b2y h3 (by rw [p6p hx]; exact f5v hq)⟩
  refine dv 16 fun K K' => ?_
  try have hN : i + 1 ≤ l.length ∧ (o ++ [x]).length ≤ 2 * (i + 1) ∧ (o ++ [x]) ++ a7n w ag (l.drop (i + 1)) false = a7n w ag l false := ⟨by omega, by simp only [r7r, a0c, a0d]; omega, b2y h3 (by rw [p6p hx]; exact d7u hq (by rintro ⟨_, h⟩; omega))⟩
  refine dv 6 ?_
  refine v5v (out := .agg (w0w true x)) rfl p0p rfl ?_
  refine y3y (id := 6) r8r rfl p0p rfl rfl rfl rfl rfl rfl ?_
  refine y6y (zs := (o ++ [x]).map (w0w true)) rfl rfl r8r rfl p0p rfl rfl rfl rfl (by rfl) (z7z _ _ _) (by (simp only [a0e, r7r, a0c, a0d, a0r, a2y, T79]; omega)) ?_
  refine dv 3 ?_
  refine x8x (b := 1) rfl rfl (by omega) (dv 1 ?_)
  exact ⟨(_, _, _), ⟨hN, (by show l.length - (i + 1) < l.length - i; omega)⟩, [0, _, _, _, _, _, _, _], x6x, x6x, x5x, x5x, rfl⟩
 have hq : ¬ x.from' = w.from' := hc6
 refine dc 6 (fun K K' => aS ?_ ?_)<;>intro hg11<;>try simp at hg11
 ·obtain rfl : d = true := hg11
  have hN : i + 1 ≤ l.length ∧ (o ++ [x]).length ≤ 2 * (i + 1) ∧ (o ++ [x]) ++ a7n w ag (l.drop (i + 1)) true = a7n w ag l false := ⟨by omega, by simp only [r7r, a0c, a0d]; omega, b2y h3 (by rw [p6p hx]; exact d7u hq (by simp))⟩
  refine dv 9 ?_
  try have hN : i + 1 ≤ l.length ∧ (o ++ [x]).length ≤ 2 * (i + 1) ∧ (o ++ [x]) ++ a7n w ag (l.drop (i + 1)) false = a7n w ag l false := ⟨by omega, by simp only [r7r, a0c, a0d]; omega, b2y h3 (by rw [p6p hx]; exact d7u hq (by rintro ⟨_, h⟩; omega))⟩
  refine dv 6 ?_
  refine v5v (out := .agg (w0w true x)) rfl p0p rfl ?_
  refine y3y (id := 6) r8r rfl p0p rfl rfl rfl rfl rfl rfl ?_
  refine y6y (zs := (o ++ [x]).map (w0w true)) rfl rfl r8r rfl p0p rfl rfl rfl rfl (by rfl) (z7z _ _ _) (by (simp only [a0e, r7r, a0c, a0d, a0r, a2y, T79]; omega)) ?_
  refine dv 3 ?_
  refine x8x (b := 1) rfl rfl (by omega) (dv 1 ?_)
  exact ⟨(_, _, _), ⟨hN, (by show l.length - (i + 1) < l.length - i; omega)⟩, [0, _, _, _, _, _, _, _], x6x, x6x, x5x, x5x, rfl⟩
 obtain rfl : d = false := hg11
 refine dc 9 (aS ?_ ?_)<;>intro u<;>try simp at u
 ·try have hN : i + 1 ≤ l.length ∧ (o ++ [x]).length ≤ 2 * (i + 1) ∧ (o ++ [x]) ++ a7n w ag (l.drop (i + 1)) false = a7n w ag l false := ⟨by omega, by simp only [r7r, a0c, a0d]; omega, b2y h3 (by rw [p6p hx]; exact d7u hq (by rintro ⟨_, h⟩; omega))⟩
  refine dv 6 ?_
  refine v5v (out := .agg (w0w true x)) rfl p0p rfl ?_
  refine y3y (id := 6) r8r rfl p0p rfl rfl rfl rfl rfl rfl ?_
  refine y6y (zs := (o ++ [x]).map (w0w true)) rfl rfl r8r rfl p0p rfl rfl rfl rfl (by rfl) (z7z _ _ _) (by (simp only [a0e, r7r, a0c, a0d, a0r, a2y, T79]; omega)) ?_
  refine dv 3 ?_
  refine x8x (b := 1) rfl rfl (by omega) (dv 1 ?_)
  exact ⟨(_, _, _), ⟨hN, (by show l.length - (i + 1) < l.length - i; omega)⟩, [0, _, _, _, _, _, _, _], x6x, x6x, x5x, x5x, rfl⟩
 have hN : i + 1 ≤ l.length ∧ (o ++ [w] ++ [x]).length ≤ 2 * (i + 1) ∧ (o ++ [w] ++ [x]) ++ a7n w ag (l.drop (i + 1)) true = a7n w ag l false := ⟨by omega, by simp only [r7r, a0c, a0d]; omega, by rw [List.append_assoc o]; exact b2y h3 (by rw [p6p hx]; exact f5w hq (by omega))⟩
 refine dv 3 ?_
 refine y3y (id := 4) r8r rfl p0p rfl rfl rfl rfl rfl rfl ?_
 refine y6y (zs := (o ++ [w]).map (w0w true)) rfl rfl r8r rfl p0p rfl rfl rfl rfl (by rfl) (z7z _ _ _) (by (simp only [a0e, r7r, a0c, a0d, a0r, a2y, T79]; omega)) ?_
 refine dv 8 ?_
 refine v5v (out := .agg (w0w true x)) rfl p0p rfl ?_
 refine y3y (id := 6) r8r rfl p0p rfl rfl rfl rfl rfl rfl ?_
 refine y6y (zs := (o ++ [w] ++ [x]).map (w0w true)) rfl rfl r8r rfl p0p rfl rfl rfl rfl (by rfl) (z7z _ _ _) (by (simp only [a0e, r7r, a0c, a0d, a0r, a2y, T79]; omega)) ?_
 refine dv 3 ?_
 refine x8x (b := 1) rfl rfl (by omega) (dv 1 ?_)
 exact ⟨(_, _, _), ⟨hN, (by show l.length - (i + 1) < l.length - i; omega)⟩, [0, _, _, _, _, _, _, _], x6x, x6x, x5x, x5x, rfl⟩
theorem b9q (k f t i0 v r g : Int) : a0q Tryz.prog 325 [.agg [pI k, pI f, pI t, pI i0, pI v, pI r, pI g, .pv (.slice none 0 0), .pv (.slice none 0 0), .pv (.slice none 0 0), .pv (.slice none 0 0)]] (w6w true (e6c ⟨k, f, t, i0, v, r, g, [], [], [], []⟩)) := by
 refine pX Tryz.f325 [w6w true (e6c ⟨k, f, t, i0, v, r, g, [], [], [], []⟩)] 4 ?_
 refine dv 1 ?_
 refine y0y (id := 0) rfl rfl rfl (dv 2 ?_)
 refine y1y (id := 1) r8r rfl p0p rfl (dv 5 fun K K' => ?_)
 refine x4x (ι := Nat) (fun i γ1 => [(3, .ref 1 (γ1 1)), (4, pI ((i + 1 : Nat) : Int))]) (fun i γ1 => [(1, ((γ1 1), .row 79 11 ((List.range i).map fun (j : Nat) => [pI k, pI f, pI ((j + 1 : Nat) : Int), pI i0, pI v, pI r, pI g, .pv (.slice none 0 0), .pv (.slice none 0 0), .pv (.slice none 0 0), .pv (.slice none 0 0)]))), (0, ((0 + 1), .box 79 [pI k, pI f, pI (if i = 0 then t else ((i : Nat) : Int)), pI i0, pI v, pI r, pI g, .pv (.slice none 0 0), .pv (.slice none 0 0), .pv (.slice none 0 0), .pv (.slice none 0 0)])), (2, ((γ1 2), .dead)), (3, ((γ1 3), .dead))]) (fun i => i ≤ 2) (fun i => 2 - i) (x7x 1 rfl Cov.nil) HE.nil 0 (by omega) [0, _, _, _] x6x (HE.row rfl (by rfl) (HE.box rfl (by rfl) (HE.kill rfl (HE.kill rfl HE.nil)))) rfl fun i γ1 hi => ?_
 refine dc 4 (fun K K' => aS ?_ ?_)<;>intro u<;>try simp at u
 ·obtain rfl : i = 2 := by omega
  refine dv 4 ?_
  refine d2c (f := fun (j : Nat) => [pI k, pI f, pI ((j + 1 : Nat) : Int), pI i0, pI v, pI r, pI g, .pv (.slice none 0 0), .pv (.slice none 0 0), .pv (.slice none 0 0), .pv (.slice none 0 0)]) (f' := fun (j : Nat) => w0w true ⟨k, f, ((j + 1 : Nat) : Int), i0, v, r, g, [], [], [], []⟩) (l := List.range 2) 1 rfl (fun _ => .same (.same (.same (.same (.same (.same (.same (.le rfl .nil rfl (.le rfl .nil rfl (.le rfl .nil rfl (.le rfl .nil rfl .nil))))))))))) ?_
  refine dv 1 ?_
  exact a5h (l := List.range 2) (l' := List.range 2) (f := fun (j : Nat) => w0w true ⟨k, f, ((j + 1 : Nat) : Int), i0, v, r, g, [], [], [], []⟩) rfl rfl (fun _ => rfl) rfl
 refine dv 10 fun K K' => ?_
 refine y3y (id := 2) r8r rfl p0p rfl rfl rfl rfl rfl rfl ?_
 refine y6y (zs := ((List.range i).map fun (j : Nat) => [pI k, pI f, pI ((j + 1 : Nat) : Int), pI i0, pI v, pI r, pI g, .pv (.slice none 0 0), .pv (.slice none 0 0), .pv (.slice none 0 0), .pv (.slice none 0 0)]) ++ [[pI k, pI f, pI ((i + 1 : Nat) : Int), pI i0, pI v, pI r, pI g, .pv (.slice none 0 0), .pv (.slice none 0 0), .pv (.slice none 0 0), .pv (.slice none 0 0)]]) rfl rfl r8r rfl p0p rfl rfl rfl rfl (by rfl) rfl (by (simp only [a0e, r7r, a0c, a0d, a0r, a2y, T79]; omega)) ?_
 refine dv 3 ?_
 refine x8x (b := 1) rfl rfl (by omega) (dv 1 ?_)
 exact ⟨i + 1, ⟨by omega, by omega⟩, [0, _, _, _], x6x, x6x, (HE.row rfl (by rw [List.range_succ, List.map_append]; rfl) (HE.box rfl (by rw [if_neg (by omega : ¬ i + 1 = 0)] <;> rfl) (HE.kill rfl (HE.kill rfl HE.nil)))), x5x, rfl⟩
theorem c5p (k f t i0 v r g : Int) : Meth Tryz.prog 325 1 [] [.agg [pI k, pI f, pI t, pI i0, pI v, pI r, pI g, .pv (.slice none 0 0), .pv (.slice none 0 0), .pv (.slice none 0 0), .pv (.slice none 0 0)]] [(0, (0, .dead))] (.ref 0 0) [(0, (0, .row 79 11 ((e6c ⟨k, f, t, i0, v, r, g, [], [], [], []⟩).map (w0w true))))] := by
 refine mX Tryz.f325 [.ref 0 0] 1 3 fun γ => ?_
 refine dv 1 ?_
 refine y0y (id := 1) rfl rfl rfl (dv 2 ?_)
 refine y1y (id := 0) r8r rfl p0p rfl (dv 5 fun K K' => ?_)
 refine x4x (ι := Nat) (fun i γ1 => [(3, .ref 0 (γ1 0)), (4, pI ((i + 1 : Nat) : Int))]) (fun i γ1 => [(0, ((γ1 0), .row 79 11 ((List.range i).map fun (j : Nat) => [pI k, pI f, pI ((j + 1 : Nat) : Int), pI i0, pI v, pI r, pI g, .pv (.slice none 0 0), .pv (.slice none 0 0), .pv (.slice none 0 0), .pv (.slice none 0 0)]))), (1, ((0 + 1), .box 79 [pI k, pI f, pI (if i = 0 then t else ((i : Nat) : Int)), pI i0, pI v, pI r, pI g, .pv (.slice none 0 0), .pv (.slice none 0 0), .pv (.slice none 0 0), .pv (.slice none 0 0)])), (2, ((γ1 2), .dead)), (3, ((γ1 3), .dead))]) (fun i => i ≤ 2) (fun i => 2 - i) (x7x 1 rfl Cov.nil) HE.nil 0 (by omega) [_, 0, _, _] x6x (HE.row rfl (by rfl) (HE.box rfl (by rfl) (HE.kill rfl (HE.kill rfl HE.nil)))) rfl fun i γ1 hi => ?_
 refine dc 4 (fun K K' => aS ?_ ?_)<;>intro u<;>try simp at u
 ·obtain rfl : i = 2 := by omega
  refine dv 4 ?_
  refine d2c (f := fun (j : Nat) => [pI k, pI f, pI ((j + 1 : Nat) : Int), pI i0, pI v, pI r, pI g, .pv (.slice none 0 0), .pv (.slice none 0 0), .pv (.slice none 0 0), .pv (.slice none 0 0)]) (f' := fun (j : Nat) => w0w true ⟨k, f, ((j + 1 : Nat) : Int), i0, v, r, g, [], [], [], []⟩) (l := List.range 2) 0 rfl (fun _ => .same (.same (.same (.same (.same (.same (.same (.le rfl .nil rfl (.le rfl .nil rfl (.le rfl .nil rfl (.le rfl .nil rfl .nil))))))))))) ?_
  refine dv 1 ?_
  exact ⟨[_], rfl, rfl, x5x⟩
 refine dv 10 fun K K' => ?_
 refine y3y (id := 2) r8r rfl p0p rfl rfl rfl rfl rfl rfl ?_
 refine y6y (zs := ((List.range i).map fun (j : Nat) => [pI k, pI f, pI ((j + 1 : Nat) : Int), pI i0, pI v, pI r, pI g, .pv (.slice none 0 0), .pv (.slice none 0 0), .pv (.slice none 0 0), .pv (.slice none 0 0)]) ++ [[pI k, pI f, pI ((i + 1 : Nat) : Int), pI i0, pI v, pI r, pI g, .pv (.slice none 0 0), .pv (.slice none 0 0), .pv (.slice none 0 0), .pv (.slice none 0 0)]]) rfl rfl r8r rfl p0p rfl rfl rfl rfl (by rfl) rfl (by (simp only [a0e, r7r, a0c, a0d, a0r, a2y, T79]; omega)) ?_
 refine dv 3 ?_
 refine x8x (b := 1) rfl rfl (by omega) (dv 1 ?_)
 exact ⟨i + 1, ⟨by omega, by omega⟩, [_, 0, _, _], x6x, x6x, (HE.row rfl (by rw [List.range_succ, List.map_append]; rfl) (HE.box rfl (by rw [if_neg (by omega : ¬ i + 1 = 0)] <;> rfl) (HE.kill rfl (HE.kill rfl HE.nil)))), x5x, rfl⟩
theorem d0q (l : List Wo) (f : Int) : a0q Tryz.prog 329 [w6w true l, .pv (.int .i64 f)] (.tup [.agg (w0w true (f3y f l)), .pv (.bool (b7q f l).isSome)]) := by
 refine pX Tryz.f329 [.agg (w0w true (f3y f l)), .pv (.bool (b7q f l).isSome)] 1 ?_
 refine u0u 0 rfl fun hlen => ?_
 refine dv 1 ?_
 refine x3x (id := 0) p0p b1k rfl (dv 5 fun K K' => ?_)
 refine x4x (ι := Nat) (fun i γ1 => [(6, pI (i : Int))]) (fun i γ1 => []) (fun i => i ≤ l.length ∧ c9q l (fun _ w => ¬ w.from' = f) i) (fun i => l.length - i) (q8q [0, 1, 4] rfl) (u9u 0 rfl HE.nil) 0 ⟨by omega, a1p⟩ [] x6x x5x rfl fun i γ1 hi => ?_
 obtain ⟨h1, h2⟩ := hi
 refine dc 6 (fun K K' => aS ?_ ?_)<;>intro u<;>try simp at u
 ·have hno := e8q (a3c h2 (by omega))
  refine dv 2 ?_
  refine rlB p0p b1k ?_
  refine dv 3 ?_
  (rw [f3y, hno]; exact ⟨_, _, rfl, d0e (.cl rfl .nil)⟩)
 obtain ⟨w, hw⟩ := gE l i
 refine dc 11 (fun K K' => aS ?_ ?_)<;>intro hc5<;>try simp at hc5
 ·have hne : ¬ w.from' = f := hc5
  refine dv 3 ?_
  refine x8x (b := 1) rfl rfl (by omega) (dv 1 ?_)
  exact ⟨i + 1, ⟨⟨by omega, s6s h2 hw hne⟩, by omega⟩, [], x6x, x6x, x5x, x5x, rfl⟩
 have hat := d7v h2 hw hc5
 refine dv 4 ?_
 refine v5v (out := .agg (w0w true w)) rfl p0p rfl ?_
 refine dv 3 ?_
 (rw [f3y, hat]; exact ⟨_, _, rfl, .agg rfl (.cl rfl (.cl rfl (.cl rfl (.cl rfl (.cl rfl (.cl rfl (.cl rfl (.cl rfl (.cl rfl (.cl rfl (.cl rfl (.nil)))))))))))) (.cl rfl .nil)⟩)
theorem c5q (c : Bool) (h : Hb) : a0q Tryz.prog 332 [.agg (a8l c h)] (.tup [.pv (.int .i64 (r4r h).1), .pv (.bool (r4r h).2)]) := by
 refine pX Tryz.f332 [.pv (.int .i64 (r4r h).1), .pv (.bool ((r4r h).2))] 1 ?_
 refine dv 1 ?_
 refine y0y (id := 0) rfl rfl rfl (dv 5 fun K K' => ?_)
 refine x0x rfl rfl rfl (b0j ..) (dc 2 (aS ?_ ?_))<;>intro hg2<;>try simp at hg2
 ·have hX : ¬ a7y h := fun q => a1o (by simpa using hg2) q.1
  refine dv 11 ?_
  try have hX : ¬ a7y h := fun q => by have := q.2.1; have := q.2.2.1; omega
  refine dv 4 ?_
  (rw [b7r hX]; exact ⟨_, _, rfl, .cl rfl (.cl rfl .nil)⟩)
 have hK : a0w h := a1e.1 (by simpa using hg2)
 refine dc 6 (aS ?_ ?_)<;>intro u<;>try simp at u
 ·refine dv 5 ?_
  try have hX : ¬ a7y h := fun q => by have := q.2.1; have := q.2.2.1; omega
  refine dv 4 ?_
  (rw [b7r hX]; exact ⟨_, _, rfl, .cl rfl (.cl rfl .nil)⟩)
 refine dc 5 (aI ?_ ?_)<;>intro u<;>try simp at u
 ·try have hX : ¬ a7y h := fun q => by have := q.2.1; have := q.2.2.1; omega
  refine dv 4 ?_
  (rw [b7r hX]; exact ⟨_, _, rfl, .cl rfl (.cl rfl .nil)⟩)
 have e1 : h.ones.length = 3 := by omega
 have e2 : h.twos.length = 3 := by omega
 refine dv 7 fun K K' => ?_
 refine x4x (ι := Nat) (fun i γ1 => [(4, pI (a1x 41 (h.ones.take i))), (5, pI (i : Int))]) (fun i γ1 => []) (fun i => i ≤ 3 ∧ ∀ j, j < i → e4l h j) (fun i => 3 - i) (x7x 1 rfl Cov.nil) (u9u 0 rfl HE.nil) 0 ⟨by omega, fun j hj => by omega⟩ [] (Cov.cons' (t := 4) rfl (rfl) (x7x 5 rfl Cov.nil)) x5x rfl fun i γ1 hi => ?_
 obtain ⟨h1, h1b⟩ := hi
 refine dc 4 (fun K K' => aS ?_ ?_)<;>intro u<;>try simp at u
 ·obtain rfl : i = 3 := by omega
  have hT : a7y h := ⟨hK, e1, e2, fun j hj => h1b j hj⟩
  have e3 : a1x 41 (h.ones.take 3) = a1x 41 h.ones := by rw [List.take_of_length_le (by omega)]
  refine dv 6 ?_
  (rw [f2x hT, ← e3]; exact ⟨_, _, rfl, .cl rfl (.cl rfl .nil)⟩)
 obtain ⟨a, ha⟩ := gE h.ones i
 obtain ⟨b, hb⟩ := gE h.twos i
 refine dc 18 (fun K K' K K' => aI ?_ ?_)<;>intro hc10<;>try simp at hc10
 ·have hX : ¬ a7y h := fun q => by have := (q.2.2.2 i (by omega) a b ha hb).1; omega
  refine dv 4 ?_
  (rw [b7r hX]; exact ⟨_, _, rfl, .cl rfl (.cl rfl .nil)⟩)
 have hI : a.inc = b.inc := hc10
 refine dv 1 ?_
 refine p7p (ι := Unit) (fun _i γ2 => [(4, pI (a1x 41 (h.ones.take (i + 1))))]) (fun _i γ2 => []) (fun _i => True) (q8q [1, 5] rfl) (u9u 0 rfl HE.nil) ?_ fun _i γ2 hi => ?_
 ·refine dc 9 (aS ?_ ?_)<;>intro u<;>try simp at u
  ·have hlt : ¬ a.g < a1x 41 (h.ones.take i) := by omega
   refine dv 1 ?_
   exact ⟨(), trivial, [], (Cov.cons' (t := 4) rfl (congrArg (fun v : Int => AV.pv (.int .i64 v)) (d7x ha hlt)) Cov.nil), x6x, x5x, x5x, rfl⟩
  have hlt : a.g < a1x 41 (h.ones.take i) := by omega
  refine dv 8 ?_
  exact ⟨(), trivial, [], (Cov.cons' (t := 4) rfl (congrArg (fun v : Int => AV.pv (.int .i64 v)) (d7w ha hlt)) Cov.nil), x6x, x5x, x5x, rfl⟩
 ·try dsimp only [b1d, b1e]
  refine dv 3 ?_
  refine x4x (ι := Nat) (fun k γ3 => [(6, pI (k : Int))]) (fun k γ3 => []) (fun k => k ≤ 3 ∧ ∀ (q : Nat) x, q < k → q ≠ i → h.ones[q]? = some x → x.incs.getD i 0 = b.inc ∧ x.versions.getD i 0 = b.version) (fun k => 3 - k) (q8q [1, 4, 5] rfl) (u9u 0 rfl HE.nil) 0 ⟨by omega, fun q x hq => by omega⟩ [] x6x x5x rfl fun k γ3 hi => ?_
  obtain ⟨h2, h2b⟩ := hi
  refine dc 4 (fun K K' => aS ?_ ?_)<;>intro u<;>try simp at u
  ·have hJ : e4l h i := fun a2 b2 ha2 hb2 => by rw [ha] at ha2; rw [hb] at hb2; cases ha2; cases hb2; exact ⟨hI, fun q x hne hx => h2b q x (by have := (List.getElem?_eq_some_iff.1 hx).1; omega) hne hx⟩
   refine dv 3 ?_
   refine x8x (b := 1) rfl rfl (by omega) (dv 1 ?_)
   exact ⟨i + 1, ⟨⟨by omega, fun j hj => by rcases Nat.lt_succ_iff_lt_or_eq.1 hj with q | q; exact h1b j q; subst q; exact hJ⟩, by omega⟩, [], x6x, x6x, x5x, x5x, rfl⟩
  obtain ⟨x0, hx0⟩ := gE h.ones k
  have hfu := hK.2.2.2.2 x0 (List.mem_of_getElem? hx0)
  obtain ⟨fu1, fu2⟩ := hfu
  obtain ⟨z, hz⟩ := gE x0.incs i
  obtain ⟨y, hy⟩ := gE x0.versions i
  refine dc 8 (fun K K' => aS ?_ ?_)<;>intro u<;>try simp at u
  ·refine dv 35 ?_
   have hS : k ≠ i → x0.incs.getD i 0 = b.inc ∧ x0.versions.getD i 0 = b.version := fun hne => by rw [b4t hz, b4t hy]; omega
   refine dv 3 ?_
   refine x8x (b := 1) rfl rfl (by omega) (dv 1 ?_)
   exact ⟨k + 1, ⟨⟨by omega, fun q x hq hne hx => by rcases Nat.lt_succ_iff_lt_or_eq.1 hq with q1 | q1; exact h2b q x q1 hne hx; subst q1; rw [hx0] at hx; cases hx; exact hS hne⟩, by omega⟩, [], x6x, x6x, x5x, x5x, rfl⟩
  refine dc 17 (aS ?_ ?_)<;>intro u<;>try simp at u
  ·refine dv 18 ?_
   have hX : ¬ a7y h := fun q => by have := (q.2.2.2 i (by omega) a b ha hb).2 k x0 (by omega) hx0; rw [b4t hz, b4t hy] at this; omega
   refine dv 4 ?_
   (rw [b7r hX]; exact ⟨_, _, rfl, .cl rfl (.cl rfl .nil)⟩)
  refine dc 18 (aI ?_ ?_)<;>intro u<;>try simp at u
  ·have hX : ¬ a7y h := fun q => by have := (q.2.2.2 i (by omega) a b ha hb).2 k x0 (by omega) hx0; rw [b4t hz, b4t hy] at this; omega
   refine dv 4 ?_
   (rw [b7r hX]; exact ⟨_, _, rfl, .cl rfl (.cl rfl .nil)⟩)
  have hS : k ≠ i → x0.incs.getD i 0 = b.inc ∧ x0.versions.getD i 0 = b.version := fun hne => by rw [b4t hz, b4t hy]; omega
  refine dv 3 ?_
  refine x8x (b := 1) rfl rfl (by omega) (dv 1 ?_)
  exact ⟨k + 1, ⟨⟨by omega, fun q x hq hne hx => by rcases Nat.lt_succ_iff_lt_or_eq.1 hq with q1 | q1; exact h2b q x q1 hne hx; subst q1; rw [hx0] at hx; cases hx; exact hS hne⟩, by omega⟩, [], x6x, x6x, x5x, x5x, rfl⟩
end
section
theorem c6w (c : Bool) (n : Nd) (fS : a0u n) (i : Nat) (l : La) (hl : n.lanes[i]? = some l) : a0q Tryz.prog 141 [.agg (u2u c n), .pv (.int .i64 (i : Int))] (.tup [.agg (y9y (b3q l (a1f n l.proc)).1), .pv (.bool (b3q l (a1f n l.proc)).2)]) := by
 refine pX Tryz.f141 [.agg (y9y (b3q l (a1f n l.proc)).1), .pv (.bool (b3q l (a1f n l.proc)).2)] 2 ?_
 have fB := w7w fS
 refine dv 1 ?_
 refine y0y (id := 0) rfl rfl rfl (x3x (id := 1) z2z a7v rfl (dv 14 ?_))
 refine x0x rfl rfl rfl (a4x c n l.proc (b5p fS) (by omega) fS.2.2.2.2.2.1) ?_
 refine x0x rfl rfl rfl (b4z c true l (a1f n l.proc)) ?_
 refine dv 5 ?_
 exact ⟨_, _, rfl, .agg rfl (.cl rfl (.cl rfl (.cl rfl (.cl rfl (.cl rfl (.cl rfl (.cl rfl .nil))))))) (.cl rfl .nil)⟩
theorem b6o (c : Bool) (n : Nd) : a0q Tryz.prog 44 [.agg (u2u c n)] (.pv (.int .i64 (c1a n))) := by
 refine pX Tryz.f44 [.pv (.int .i64 (c1a n))] 2 ?_
 refine dv 1 ?_
 refine y0y (id := 0) rfl rfl rfl (dv 6 fun K K' => ?_)
 refine x0x rfl rfl rfl (p1p ..) (dc 1 (aI ?_ ?_))<;>intro hc2<;>try simp at hc2
 ·have fX : ¬ y5y n := a1o (by simpa using hc2)
  refine dv 3 ?_
  refine x2x rfl ?_ rfl
  exact congrArg (fun v : Int => [AV.pv (.int .i64 v)]) (e2x fX).symm
 have fK : y5y n := a1e.1 (by simpa using hc2)
 have fS := fK.1
 have fB := w7w fS
 refine dv 5 fun K K' => ?_
 refine x4x (ι := Nat) (fun i γ1 => [(3, pI (b3r n i)), (4, pI (i : Int))]) (fun i γ1 => [(1, ((γ1 1), .dead))]) (fun i => i ≤ n.lanes.length) (fun i => n.lanes.length - i) (x7x 1 rfl Cov.nil) (u9u 0 rfl HE.nil) 0 (by omega) [0, _] x6x x5x rfl fun i γ1 hi => ?_
 refine dc 7 (fun K K' => aS ?_ ?_)<;>intro j<;>try simp at j
 ·obtain rfl : i = n.lanes.length := by omega
  refine dv 5 ?_
  refine x2x rfl ?_ rfl
  exact congrArg (fun v : Int => [AV.pv (.int .i64 v)]) (c4r fK).symm
 obtain ⟨l, hl⟩ := gE n.lanes i
 have hnc := b9j fK hl
 refine dv 6 fun K K' => ?_
 refine x0x rfl rfl rfl (c6w c n fS i l hl) (dv 3 ?_)
 refine x3x (id := 1) z2z a7v rfl (dv 2 ?_)
 rw [c4q ⟨hnc.2.1, hnc.2.2.1⟩]
 refine dc 3 (aS ?_ ?_)<;>intro hg7<;>try simp at hg7
 ·have hno : ¬ ((a6m l (a1f n l.proc)).2 = true ∧ (a6m l (a1f n l.proc)).1.time < b3r n i) := fun h => by have := h.1; simp_all
  refine dv 8 ?_
  refine x8x (b := 1) rfl rfl (by omega) (dv 1 ?_)
  exact ⟨i + 1, ⟨by omega, by omega⟩, [0, _], (Cov.cons' (t := 3) rfl (congrArg (fun v : Int => AV.pv (.int .i64 v)) (d4u hl hno).symm) (x7x 4 rfl Cov.nil)), x6x, x5x, x5x, rfl⟩
 have h2 : (a6m l (a1f n l.proc)).2 = true := hg7
 refine dc 5 (aS ?_ ?_)<;>intro j<;>try simp at j
 ·have hno : ¬ ((a6m l (a1f n l.proc)).2 = true ∧ (a6m l (a1f n l.proc)).1.time < b3r n i) := by (intro h; omega)
  refine dv 3 ?_
  refine x8x (b := 1) rfl rfl (by omega) (dv 1 ?_)
  exact ⟨i + 1, ⟨by omega, by omega⟩, [0, _], (Cov.cons' (t := 3) rfl (congrArg (fun v : Int => AV.pv (.int .i64 v)) (d4u hl hno).symm) (x7x 4 rfl Cov.nil)), x6x, x5x, x5x, rfl⟩
 have h3 : (a6m l (a1f n l.proc)).1.time < b3r n i := by omega
 refine dv 6 ?_
 refine x8x (b := 1) rfl rfl (by omega) (dv 1 ?_)
 exact ⟨i + 1, ⟨by omega, by omega⟩, [0, _], (Cov.cons' (t := 3) rfl (congrArg (fun v : Int => AV.pv (.int .i64 v)) (e2w hl ⟨h2, h3⟩).symm) (x7x 4 rfl Cov.nil)), x6x, x5x, x5x, rfl⟩
end
section
theorem b2e (c : Bool) (n : Nd) (r : Int) : a0q Tryz.prog 61 [.agg (u2u c n), .pv (.int .i64 r)] (.tup [.agg (u2u true (v6v n r).1), .agg (w0w true (v6v n r).2.1), .pv (.bool (v6v n r).2.2)]) := by
 refine pX Tryz.f61 [.agg (u2u true (v6v n r).1), .agg (w0w true (v6v n r).2.1), .pv (.bool (v6v n r).2.2)] 14 ?_
 refine dv 1 ?_
 refine y0y (id := 0) rfl rfl rfl (x3x (id := 1) v0v q0q rfl (x3x (id := 2) p0p b1k rfl (dv 4 fun K K' => ?_)))
 refine x0x rfl rfl rfl (p1p ..) (dc 1 (aI ?_ ?_))<;>intro hc2<;>try simp at hc2
 ·have fX : ¬ y5y n := a1o (by simpa using hc2)
  refine dv 1 ?_
  refine rlB v0v q0q ?_
  refine rlB p0p b1k ?_
  refine dv 4 ?_
  (rw [e7o fX]; exact ⟨_, _, rfl, b7m (d0e (.cl rfl .nil))⟩)
 have fK : y5y n := a1e.1 (by simpa using hc2)
 have fS := fK.1
 have fB := w7w fS
 have fV := fS.2.2.2.2.2.1
 have fb := c0z fS
 refine dv 3 ?_
 refine rlM [9, 10, 11] [_, _, _] (y4y c n fb) rfl rfl rfl ?_
 refine x3x (id := 3) v0v q0q rfl (dc 7 (fun K K' => aS ?_ ?_))<;>intro hg4<;>try simp at hg4
 ·have fU : ¬ (n.up = true ∧ n.round + 1 ≤ r ∧ r ≤ 9999) := fun h => by have := h.1; simp_all
  refine dv 10 ?_
  refine rlB p0p b1k ?_
  refine dv 4 ?_
  (rw [d7f fK fU]; exact ⟨_, _, rfl, r6r rfl rfl rfl (d0e (.cl rfl .nil))⟩)
 have fUp : n.up = true := hg4
 refine dv 3 ?_
 refine s5s (.int .i64 (n.round + 1)) rfl rfl rfl (a6p rfl rfl (by have := fS.1.2.2.2.2.2.1; omega) (by have := fS.1.2.2.2.2.2.1; omega)) ?_
 refine dv 0 ?_
 refine x0x rfl rfl rfl (u7u ..) (dv 0 ?_)
 refine x0x rfl rfl rfl (z1z ..) (dc 2 (aI ?_ ?_))<;>intro j<;>try simp at j
 ·have fU : ¬ (n.up = true ∧ n.round + 1 ≤ r ∧ r ≤ 9999) := by (intro h; omega)
  refine dv 2 ?_
  refine rlB p0p b1k ?_
  refine dv 4 ?_
  (rw [d7f fK fU]; exact ⟨_, _, rfl, r6r rfl rfl rfl (d0e (.cl rfl .nil))⟩)
 have fU : n.up = true ∧ n.round + 1 ≤ r ∧ r ≤ 9999 := ⟨fUp, by omega⟩
 refine dv 15 ?_
 refine x0x rfl rfl rfl (b6o ..) (rlB p0p b1k ?_)
 refine x3x (id := 4) p0p b1k rfl (dv 5 fun K K' => ?_)
 refine a0h 4 7 12 3 1 rfl rfl rfl rfl rfl (a0h 4 8 13 3 1 rfl rfl rfl rfl rfl ?_)
 refine x4x (ι := Nat) (fun i γ1 => [(9, pI (i : Int))]) (fun i γ1 => [(12, ((γ1 12), .row 3 1 (((n.views.take i).map Vi.inc).map a2w))), (13, ((γ1 13), .row 3 1 (((n.views.take i).map Vi.version).map a2w))), (4, ((0 + 1), .box 79 [pI 3, pI n.id, pI 0, pI n.inc, pI 0, pI r, pI (c1a n), .ref 12 (γ1 12), .ref 13 (γ1 13), .pv (.slice none 0 0), .pv (.slice none 0 0)])), (5, ((γ1 5), .dead)), (6, ((γ1 6), .dead)), (7, ((γ1 7), .dead)), (8, ((γ1 8), .dead))]) (fun i => i ≤ 3) (fun i => 3 - i) (q8q [2, 4, 5, 7, 8] rfl) (a0o [0, 1, 2, 3, 9, 10, 11] rfl) 0 (by omega) [0, 0, 0, 0, 0, _, _, _, _, 0, 0, 0, _, _] x6x (HE.row rfl (by rw [List.take_zero]; rfl) (HE.row rfl (by rw [List.take_zero]; rfl) (HE.box rfl rfl (HE.kill rfl (HE.kill rfl (HE.kill rfl (HE.kill rfl HE.nil))))))) rfl fun i γ1 hi => ?_
 refine dc 4 (fun K K' => aS ?_ ?_)<;>intro j<;>try simp at j
 ·obtain rfl : i = n.views.length := by omega
  rw [List.take_length]
  refine dv 8 ?_
  (rw [e7p fK fU, show e2y n r = { e2y n r with g := c1a n } from by rw [c4r fK]; rfl]; exact ⟨_, _, rfl, r6r (n := { n with round := r, low := 41 }) rfl rfl rfl (.agg rfl (.cl rfl (.cl rfl (.cl rfl (.cl rfl (.cl rfl (.cl rfl (.cl rfl (.ref rfl (Le.ow_map _ (fun _ => rfl) (fun _ => rfl)) (.ref rfl (Le.ow_map _ (fun _ => rfl) (fun _ => rfl)) (.le rfl .nil (.le rfl .nil .nil))))))))))) (.cl rfl .nil))⟩)
 obtain ⟨v, hv⟩ := gE n.views i
 refine dv 12 fun K K' => ?_
 refine a8y (id := 5) a0n rfl s3s rfl rfl rfl rfl rfl ?_
 refine y6y (zs := ((n.views.take i).map Vi.inc ++ [v.inc]).map a2w) rfl rfl a0n rfl s3s rfl rfl rfl rfl (by rfl) (z7z _ _ _) (by (simp only [a0e, r7r, a0c, a0d, a0r, T3]; omega)) ?_
 refine dv 11 ?_
 refine a8y (id := 7) a0n rfl s3s rfl rfl rfl rfl rfl ?_
 refine y6y (zs := ((n.views.take i).map Vi.version ++ [v.version]).map a2w) rfl rfl a0n rfl s3s rfl rfl rfl rfl (by rfl) (z7z _ _ _) (by (simp only [a0e, r7r, a0c, a0d, a0r, T3]; omega)) ?_
 refine dv 4 ?_
 refine z8z rfl rfl rfl (dv 1 ?_)
 exact ⟨i + 1, ⟨by omega, by omega⟩, [0, 0, 0, 0, 0, _, _, _, _, 0, 0, 0, _, _], (Cov.cons' (t := 9) rfl (by rw [x9x (by omega) (by omega)]; rfl) Cov.nil), x6x, (HE.row rfl (by simp only [z6z hv, List.map_append, List.map_cons, List.map_nil]) (HE.row rfl (by simp only [z6z hv, List.map_append, List.map_cons, List.map_nil]) (HE.box rfl rfl (HE.kill rfl (HE.kill rfl (HE.kill rfl (HE.kill rfl HE.nil))))))), x5x, rfl⟩
end
section
theorem c1l (c : Bool) (l : La) (u : Int) (hok : a7q l = true) : a0q Tryz.prog 25 [.agg (q7q c l), .pv (.int .i64 u)] (.tup [.agg (q7q true (c4u u l)), q2q true (c4v u l), r0r true (c9v u l)]) := by
 refine pX Tryz.f25 [.agg (q7q true (c4u u l)), q2q true (c4v u l), r0r true (c9v u l)] 8 ?_
 obtain ⟨h1, h2⟩ := a3j hok
 have hlb := f1w hok
 refine dv 1 ?_
 refine y0y (id := 0) rfl rfl rfl (x3x (id := 1) a0l a6o rfl (dv 3 ?_))
 refine y1y (id := 2) u4u rfl z2z rfl (dv 2 ?_)
 refine y1y (id := 3) a0x rfl w9w rfl (dv 4 fun K K' => ?_)
 refine x0x rfl rfl rfl (a4l ..) (dv 1 ?_)
 refine a0z rfl (fun hc2 => ?_) (fun hc2 => ?_)
 ·simp [hok] at hc2
 try simp at hc2
 refine dv 6 ?_
 refine x3x (id := 4) a5r d1m rfl (dv 3 fun K K' => ?_)
 refine x4x (ι := Nat) (fun i γ1 => [(7, .ref 2 (γ1 2)), (8, .ref 3 (γ1 3)), (9, pI (i : Int))]) (fun i γ1 => [(2, ((γ1 2), .row 56 7 (((l.done.take i).flatMap Pa.sends).map y9y))), (3, ((γ1 3), .row 141 5 (((l.done.take i).flatMap Pa.outs).map q5q))), (4, ((0 + 1), .box 41 [pI (b6e l i).x, pI (b6e l i).y, pI (b6e l i).count])), (5, ((γ1 5), .dead)), (6, ((γ1 6), .dead))]) (fun i => i ≤ l.done.length ∧ (∀ (j : Nat) p, j < i → l.done[j]? = some p → p.ev.time < u)) (fun i => l.done.length - i) (q8q [1, 2, 4, 10] rfl) (a0o [0, 1, 7] rfl) 0 ⟨by omega, fun j p hj => by omega⟩ [0, 0, _, _, 0, _, _] x6x (HE.row rfl (by rfl) (HE.row rfl (by rfl) (HE.box rfl rfl (HE.kill rfl (HE.kill rfl HE.nil))))) rfl fun i γ1 hi => ?_
 obtain ⟨k1, k2⟩ := hi
 refine dc 8 (fun K K' => aS ?_ ?_)<;>intro h<;>try simp at h
 ·have hcut : d2r u l.done = i := d4w k1 k2 (fun q hq => by rw [List.getElem?_eq_none (by omega)] at hq; cases hq)
  refine dv 9 ?_
  refine a0z rfl (fun hc7 => ?_) (fun hc7 => ?_)
  ·simp [hok] at hc7
  try simp at hc7
  have hfs := b4m (f := Pa.sends) (m := 2) k1 fun p hp => (h2 p hp).1
  have hfo := b4m (f := Pa.outs) (m := 2) k1 fun p hp => (h2 p hp).2
  refine dv 7 ?_
  refine x0x rfl rfl rfl (a3k c l i l.done.length hlb.1 (by omega) hlb.1 hlb.2) ?_
  refine x3x (id := 7) a0l a6o rfl (dv 4 ?_)
  refine a1j rfl rfl a5r rfl rfl rfl rfl (s0s rfl) rfl ?_
  refine p8p 7 rfl rfl (fun _ => rfl) ?_
  refine p8p 8 rfl rfl (fun _ => rfl) ?_
  refine dv 3 ?_
  refine x0x rfl rfl rfl (a1z true _ (by omega)) ?_
  refine dv 1 ?_
  refine x0x rfl rfl rfl (a4w true _ (by omega)) ?_
  refine dv 4 ?_
  subst hcut
  rw [show c4u u l = ⟨l.proc, b6e l (d2r u l.done), (l.done.take l.done.length).drop (d2r u l.done)⟩ from by rw [List.take_length]; rfl]
  exact ⟨_, _, rfl, .agg rfl (.cl rfl (.cl rfl (.cl rfl (.cl rfl (.cl rfl .nil))))) (.cl rfl (.cl rfl .nil))⟩
 obtain ⟨p, hp⟩ := gE l.done i
 have hpb := h2 p (List.mem_of_getElem? hp)
 refine dc 10 (aS ?_ ?_)<;>intro hc6<;>try simp at hc6
 ·have hcut : d2r u l.done = i := by exact d4w k1 k2 (fun q hq => by rw [hp] at hq; cases hq; omega)
  have hfs := b4m (f := Pa.sends) (m := 2) k1 fun p hp => (h2 p hp).1
  have hfo := b4m (f := Pa.outs) (m := 2) k1 fun p hp => (h2 p hp).2
  refine dv 7 ?_
  refine x0x rfl rfl rfl (a3k c l i l.done.length hlb.1 (by omega) hlb.1 hlb.2) ?_
  refine x3x (id := 7) a0l a6o rfl (dv 4 ?_)
  refine a1j rfl rfl a5r rfl rfl rfl rfl (s0s rfl) rfl ?_
  refine p8p 7 rfl rfl (fun _ => rfl) ?_
  refine p8p 8 rfl rfl (fun _ => rfl) ?_
  refine dv 3 ?_
  refine x0x rfl rfl rfl (a1z true _ (by omega)) ?_
  refine dv 1 ?_
  refine x0x rfl rfl rfl (a4w true _ (by omega)) ?_
  refine dv 4 ?_
  subst hcut
  rw [show c4u u l = ⟨l.proc, b6e l (d2r u l.done), (l.done.take l.done.length).drop (d2r u l.done)⟩ from by rw [List.take_length]; rfl]
  exact ⟨_, _, rfl, .agg rfl (.cl rfl (.cl rfl (.cl rfl (.cl rfl (.cl rfl .nil))))) (.cl rfl (.cl rfl .nil))⟩
 have hlt : p.ev.time < u := hc6
 have hfs := b4m (f := Pa.sends) (m := 2) (show i ≤ l.done.length by omega) fun p hp => (h2 p hp).1
 have hfo := b4m (f := Pa.outs) (m := 2) (show i ≤ l.done.length by omega) fun p hp => (h2 p hp).2
 refine dv 8 ?_
 refine v5v (out := .agg (s1s p.after)) rfl a5r rfl ?_
 refine dv 9 ?_
 refine w5w (zs := ((l.done.take i).flatMap Pa.sends ++ p.sends).map y9y) rfl rfl u4u rfl z2z rfl rfl rfl (z9z (fun _ => rfl) _) (a7w _ _ _) (by (simp only [a0e, r7r, a0c, a0d, a0r, b3u, T56]; omega)) ?_
 refine dv 9 ?_
 refine w5w (zs := ((l.done.take i).flatMap Pa.outs ++ p.outs).map q5q) rfl rfl a0x rfl w9w rfl rfl rfl (z9z (fun _ => rfl) _) (a7w _ _ _) (by (simp only [a0e, r7r, a0c, a0d, a0r, b3u, T141]; omega)) ?_
 refine dv 3 ?_
 refine x8x (b := 1) rfl rfl (by omega) (dv 1 ?_)
 exact ⟨i + 1, ⟨⟨by omega, fun j q hj hq => by by_cases e : j = i; (subst e; rw [hp] at hq; cases hq; exact hlt); exact k2 j q (by omega) hq⟩, by omega⟩, [0, 0, _, _, 0, _, _], x6x, x6x, (HE.row rfl (by rw [a3y hp]) (HE.row rfl (by rw [a3y hp]) (HE.box rfl (by rw [c4t hp]; rfl) (HE.kill rfl (HE.kill rfl HE.nil))))), x5x, rfl⟩
end
section
theorem b2f (c : Bool) (n : Nd) (r g : Int) : a0q Tryz.prog 67 [.agg (u2u c n), .pv (.int .i64 r), .pv (.int .i64 g)] (.tup [.agg (u2u true (s2s n r g).1), .pv (.bool (s2s n r g).2)]) := by
 refine pX Tryz.f67 [.agg (u2u true (s2s n r g).1), .pv (.bool (s2s n r g).2)] 19 ?_
 refine dv 1 ?_
 refine y0y (id := 0) rfl rfl rfl (x3x (id := 1) v0v q0q rfl (dv 4 fun K K' => ?_))
 refine x0x rfl rfl rfl (p1p c n) (dc 1 (aI ?_ ?_))<;>intro hc2<;>try simp at hc2
 ·have fX : ¬ y5y n := a1o (by simpa using hc2)
  refine dv 1 ?_
  refine rlB v0v q0q ?_
  refine dv 3 ?_
  (rw [e7v fX]; exact ⟨_, _, rfl, b7m (.cl rfl .nil)⟩)
 have fK : y5y n := a1e.1 (by simpa using hc2)
 have fS := fK.1
 have fB := w7w fS
 have fV := fS.2.2.2.2.2.1
 have fb := c0z fS
 have fM0 := c4r fK
 have fL := c9w fS
 have fG := fS.1.2.2.1
 refine dv 3 ?_
 refine rlM [13, 14, 15] [_, _, _] (y4y c n fb) rfl rfl rfl ?_
 refine x3x (id := 2) v0v q0q rfl (dc 7 (fun K K' => aS ?_ ?_))<;>intro hg4<;>try simp at hg4
 ·have fU : ¬ b4n n r g := by (rintro ⟨m1, m2, m3, m4, m5, m6, m7, m8⟩; (simp_all; done))
  refine dv 40 ?_
  (rw [b2s fK fU]; exact ⟨_, _, rfl, r6r (n := n) rfl rfl rfl (.cl rfl .nil)⟩)
 have fUp : n.up = true := hg4
 refine dc 4 (aS ?_ ?_)<;>intro h<;>try simp at h
 ·have fU : ¬ b4n n r g := by (rintro ⟨m1, m2, m3, m4, m5, m6, m7, m8⟩; omega)
  refine dv 36 ?_
  (rw [b2s fK fU]; exact ⟨_, _, rfl, r6r (n := n) rfl rfl rfl (.cl rfl .nil)⟩)
 refine dc 6 (aS ?_ ?_)<;>intro h<;>try simp at h
 ·have fU : ¬ b4n n r g := by (rintro ⟨m1, m2, m3, m4, m5, m6, m7, m8⟩; omega)
  refine dv 30 ?_
  (rw [b2s fK fU]; exact ⟨_, _, rfl, r6r (n := n) rfl rfl rfl (.cl rfl .nil)⟩)
 refine dv 3 ?_
 refine s5s (.int .i64 (n.g + 1)) rfl rfl rfl (a6p rfl rfl (by omega) (by omega)) ?_
 refine dv 0 ?_
 refine x0x rfl rfl rfl (z1z ..) (dc 3 (aS ?_ ?_))<;>intro h<;>try simp at h
 ·have fU : ¬ b4n n r g := by (rintro ⟨m1, m2, m3, m4, m5, m6, m7, m8⟩; omega)
  refine dv 22 ?_
  (rw [b2s fK fU]; exact ⟨_, _, rfl, r6r (n := n) rfl rfl rfl (.cl rfl .nil)⟩)
 refine dc 6 (aS ?_ ?_)<;>intro h<;>try simp at h
 ·have fU : ¬ b4n n r g := by (rintro ⟨m1, m2, m3, m4, m5, m6, m7, m8⟩; omega)
  refine dv 16 ?_
  (rw [b2s fK fU]; exact ⟨_, _, rfl, r6r (n := n) rfl rfl rfl (.cl rfl .nil)⟩)
 refine dv 1 ?_
 refine x0x rfl rfl rfl (b6o c n) (dc 4 (aS ?_ ?_))<;>intro h<;>try simp at h
 ·have fU : ¬ b4n n r g := by (rintro ⟨m1, m2, m3, m4, m5, m6, m7, m8⟩; omega)
  refine dv 10 ?_
  (rw [b2s fK fU]; exact ⟨_, _, rfl, r6r (n := n) rfl rfl rfl (.cl rfl .nil)⟩)
 refine dv 2 ?_
 refine x0x rfl rfl rfl (u7u ..) (dc 2 (aI ?_ ?_))<;>intro h<;>try simp at h
 ·have fU : ¬ b4n n r g := by (rintro ⟨m1, m2, m3, m4, m5, m6, m7, m8⟩; omega)
  refine dv 5 ?_
  (rw [b2s fK fU]; exact ⟨_, _, rfl, r6r (n := n) rfl rfl rfl (.cl rfl .nil)⟩)
 have fM : b4n n r g := ⟨fUp, by omega, by omega, by omega, by omega, by omega, by omega, by omega⟩
 obtain ⟨k, hk, hk3, hkn⟩ := f5h fS
 have hkl := fS.2.2.2.2.2.2.1
 obtain ⟨kn, hkv⟩ := gE n.known k
 have hKk : n.known.set n.id.toNat g = n.known.set k g := by rw [hkn]
 refine dv 13 fun K K' => ?_
 refine x4x (ι := Nat) (fun i γ1 => [(9, q2q c (a4m n g i)), (10, r0r c (b3f n g i)), (11, pI (i : Int))]) (fun i γ1 => [(13, ((0 + 1), .row 44 5 ((c1b g n.lanes i).map (q7q true)))), (3, ((γ1 3), .dead)), (4, ((γ1 4), .dead)), (5, ((γ1 5), .dead)), (6, ((γ1 6), .dead)), (7, ((γ1 7), .dead)), (8, ((γ1 8), .dead)), (9, ((γ1 9), .dead))]) (fun i => i ≤ n.lanes.length) (fun i => n.lanes.length - i) (q8q [2, 3, 6, 8] rfl) (a0o [0, 1, 2, 10, 11, 12, 14, 15, 16, 17, 18] rfl) 0 (by omega) [0, 0, 0, _, _, _, _, _, _, _] (Cov.cons' (t := 9) rfl (by rw [d4x]) (Cov.cons' (t := 10) rfl (by rw [d4y]) (x7x 11 rfl Cov.nil))) (HE.row rfl (by rw [d9h]) (HE.kill rfl (HE.kill rfl (HE.kill rfl (HE.kill rfl (HE.kill rfl (HE.kill rfl (HE.kill rfl HE.nil)))))))) rfl fun i γ1 hi => ?_
 refine dc 7 (fun K K' => aI ?_ ?_)<;>intro h<;>try simp at h
 ·obtain ⟨l, hp⟩ := gE n.lanes i
  have hkt := d2s fS g (i + 1)
  rw [c4w hp, List.length_append] at hkt
  have hot := d2t fS g (i + 1)
  rw [c4x hp, List.length_append] at hot
  have hlt2 : i < (c1b g n.lanes i).length := by rw [e3b _ _ (by omega)]; omega
  have hll := fL l (List.mem_of_getElem? hp)
  refine dv 10 fun K K' => ?_
  refine x0x rfl rfl rfl (c1l c l g hll) (dv 4 ?_)
  refine x3x (id := 3) a0l a6o rfl (dv 8 ?_)
  refine z0z (j := i) rfl rfl a7u rfl a0l rfl rfl hlt2 ?_
  refine v7v (el' := c4u g l) rfl rfl a0l rfl rfl rfl (e7t hp) rfl (s4s rfl) rfl rfl ?_
  refine dv 1 ?_
  refine y1y (id := 4) u4u rfl z2z rfl (dv 1 ?_)
  refine w5w (zs := (a4m n g i).map y9y) rfl rfl u4u rfl z2z rfl rfl rfl (z9z (fun _ => rfl) _) rfl (by (simp only [a0e, r7r, a0c, a0d, a0r, T56]; omega)) ?_
  refine dv 1 ?_
  refine a2d v4v (zs := (a4m n g i ++ c4v g l).map y9y) rfl rfl u4u rfl z2z rfl rfl rfl (z9z (fun _ => rfl) _) (a7w _ _ _) (by (simp only [a0e, r7r, a0c, a0d, a0r, T56]; omega)) (Le.ow_map _ (fun _ => rfl) (fun _ => rfl)) ?_
  refine dv 2 ?_
  refine y1y (id := 7) a0x rfl w9w rfl (dv 1 ?_)
  refine w5w (zs := (b3f n g i).map q5q) rfl rfl a0x rfl w9w rfl rfl rfl (z9z (fun _ => rfl) _) rfl (by (simp only [a0e, r7r, a0c, a0d, a0r, T141]; omega)) ?_
  refine dv 1 ?_
  refine a2d v4v (zs := (b3f n g i ++ c9v g l).map q5q) rfl rfl a0x rfl w9w rfl rfl rfl (z9z (fun _ => rfl) _) (a7w _ _ _) (by (simp only [a0e, r7r, a0c, a0d, a0r, T141]; omega)) (Le.ow_map _ (fun _ => rfl) (fun _ => rfl)) ?_
  refine dv 1 ?_
  refine d1r 9 rfl (.le rfl (Le.low_map (c := c) (l := a4m n g i ++ c4v g l) (f := y9y) fun _ => rfl) .nil) ?_
  refine d1r 10 rfl (.le rfl (Le.low_map (c := c) (l := b3f n g i ++ c9v g l) (f := q5q) fun _ => rfl) .nil) ?_
  refine dv 2 ?_
  refine z8z rfl rfl rfl (dv 1 ?_)
  exact ⟨i + 1, ⟨by omega, by omega⟩, [0, 0, 0, _, _, _, _, _, _, _], (Cov.cons' (t := 9) rfl (by rw [c4w hp]; rfl) (Cov.cons' (t := 10) rfl (by rw [c4x hp]; rfl) (Cov.cons' (t := 11) rfl (by rw [x9x (by omega) (by omega)]; rfl) Cov.nil))), x6x, (HE.row rfl (by rw [e3c hp]) (HE.kill rfl (HE.kill rfl (HE.kill rfl (HE.kill rfl (HE.kill rfl (HE.kill rfl (HE.kill rfl HE.nil)))))))), x5x, rfl⟩
 obtain rfl : i = n.lanes.length := by omega
 have hkt := d2s fS g n.lanes.length
 have hot := d2t fS g n.lanes.length
 have hkq : ∀ e ∈ z4z (a4m n g n.lanes.length), okE e = true := fun e he => e3d fS ((b5l _ _).1 he)
 have hqs := a9i (a4m n g n.lanes.length)
 refine dv 11 ?_
 refine z0z (j := k) rfl (by rw [← hk]; rfl) a0n rfl s3s rfl rfl (y8y hkv) ?_
 refine a8t (el' := g) rfl rfl s3s rfl rfl rfl hkv rfl (by omega) (.val rfl rfl .nil) rfl rfl ?_
 refine dv 1 ?_
 refine y1y (id := 10) u4u rfl z2z rfl (dv 4 ?_)
 refine x0x rfl rfl rfl (a1z c _ (by omega)) ?_
 refine dv 5 fun K K' => ?_
 refine x4x (ι := Nat) (fun j γ2 => [(15, pI (j : Int))]) (fun j γ2 => [(10, ((γ2 10), .row 56 7 ((((z4z (a4m n g n.lanes.length)).take j).filter (d2u (n.known.set k g))).map y9y))), (2, ((0 + 1), .box 65 [pI n.id, .pv (.bool n.up), pI n.inc, pI g, .ref 13 (0 + 1), .ref 10 (γ2 10), r0r true n.outs, pI n.led, pI n.version, .ref 14 (0 + 1), .ref 15 (0 + 1), pI n.round, pI n.low])), (11, ((γ2 11), .dead)), (12, ((γ2 12), .dead))]) (fun j => j ≤ (z4z (a4m n g n.lanes.length)).length) (fun j => (z4z (a4m n g n.lanes.length)).length - j) (q8q [3, 6, 8, 9, 10] rfl) (a0o [0, 1, 3, 4, 5, 6, 7, 8, 9, 13, 14, 15, 16, 17, 18] rfl) 0 (by omega) [0, 0, 0, 0, 0, 0, 0, 0, 0, 0, _, _, _] x6x (HE.row rfl (by rw [List.take_zero]; rfl) (HE.box rfl rfl (HE.kill rfl (HE.kill rfl HE.nil)))) rfl fun j γ2 hi => ?_
 refine dc 6 (fun K K' => aS ?_ ?_)<;>intro h<;>try simp at h
 ·obtain rfl : j = (z4z (a4m n g n.lanes.length)).length := by omega
  refine dv 3 ?_
  refine x0x rfl rfl rfl (a4w c _ (by omega)) ?_
  refine dv 3 fun K K' => ?_
  refine b4f 10 (xs' := (a4o n g).kept.map y9y) rfl (by simp only [a4o, hKk, c9x, List.take_length]) ?_
  refine b4f 13 (xs' := (a4o n g).lanes.map (q7q true)) rfl (by rw [e3a]; rfl) ?_
  refine b4f 15 (xs' := (a4o n g).known.map a2w) rfl (by simp only [a4o, hKk]) ?_
  refine v9v (b := c0g true (a4o n g).lanes) 2 4 rfl rfl rfl (.ref rfl (Le.ow_map _ (fun _ => rfl) (fun _ => rfl)) .nil) rfl rfl rfl rfl ?_
  refine v9v (b := q2q true (a4o n g).kept) 2 5 rfl rfl rfl (.ref rfl (Le.ow_map _ (fun _ => rfl) (fun _ => rfl)) .nil) rfl rfl rfl rfl ?_
  refine v9v (b := c1z true n.views) 2 9 rfl rfl rfl (.ref rfl (Le.ow_map _ (fun _ => rfl) (fun _ => rfl)) .nil) rfl rfl rfl rfl ?_
  refine v9v (b := a4p true (a4o n g).known) 2 10 rfl rfl rfl (.ref rfl (Le.ow_map _ (fun _ => rfl) (fun _ => rfl)) .nil) rfl rfl rfl rfl ?_
  refine dv 2 ?_
  refine x0x rfl rfl rfl (p1p true (a4o n g)) ?_
  refine dc 1 (aI ?_ ?_)<;>intro hc21<;>try simp at hc21
  ·have fX2 : ¬ y5y (a4o n g) := a1o (by simpa using hc21)
   refine dv 2 ?_
   refine rlM [16, 17, 18] [_, _, _] (y4y c n fb) rfl rfl rfl ?_
   refine dv 3 ?_
   (rw [d7g fK fM, b4o fX2]; exact ⟨_, _, rfl, r6r (n := n) rfl rfl rfl (.cl rfl .nil)⟩)
  have fK2 : y5y (a4o n g) := a1e.1 (by simpa using hc21)
  have fb2 := c0z fK2.1
  refine dv 3 ?_
  refine rlM [16, 17, 18] [_, _, _] (y4y true (a4o n g) fb2) rfl rfl rfl ?_
  refine dv 3 ?_
  (rw [d7g fK fM, b1s fK2]; exact ⟨_, _, rfl, r6r (n := a4o n g) rfl rfl rfl (.cl rfl .nil)⟩)
 obtain ⟨e, he⟩ := gE (z4z (a4m n g n.lanes.length)) j
 obtain ⟨k2, v, hk2, hv, hw⟩ := e7u (kn := n.known.set k g) (hkq e (List.mem_of_getElem? he)) (by rw [List.length_set]; exact hkl)
 have hfl : (((z4z (a4m n g n.lanes.length)).take j).filter (d2u (n.known.set k g))).length ≤ 1000000 := Nat.le_trans (List.length_filter_le _ _) (by rw [List.length_take]; omega)
 refine dv 16 fun K K' => ?_
 refine x0x rfl rfl rfl (a0p ..) ?_
 refine z0z (j := k2) rfl (by rw [← hk2]; rfl) a0n rfl s3s rfl rfl (y8y hv) ?_
 refine dc 2 (aS ?_ ?_)<;>intro h<;>try simp at h
 ·have hwf : ¬ d2u (n.known.set k g) e = true := by rw [hw]; simp; omega
  refine dv 3 ?_
  refine z8z rfl rfl rfl (dv 1 ?_)
  exact ⟨j + 1, ⟨by omega, by omega⟩, [0, 0, 0, 0, 0, 0, 0, 0, 0, 0, _, _, _], (Cov.cons' (t := 15) rfl (by rw [x9x (by omega) (by omega)]; rfl) Cov.nil), x6x, (HE.row rfl (by rw [q9q he]; rw [if_neg hwf, List.append_nil]) (HE.box rfl rfl (HE.kill rfl (HE.kill rfl HE.nil)))), x5x, rfl⟩
 have hwt : d2u (n.known.set k g) e = true := by rw [hw]; exact decide_eq_true (by omega)
 refine dv 7 ?_
 refine y3y (id := 11) u4u rfl z2z rfl rfl rfl rfl rfl rfl ?_
 refine y6y (zs := (((z4z (a4m n g n.lanes.length)).take j).filter (d2u (n.known.set k g)) ++ [e]).map y9y) rfl rfl u4u rfl z2z rfl rfl rfl rfl (by rfl) (z7z _ _ _) (by (simp only [a0e, r7r, a0c, a0d, a0r, T56]; omega)) ?_
 refine dv 4 ?_
 refine z8z rfl rfl rfl (dv 1 ?_)
 exact ⟨j + 1, ⟨by omega, by omega⟩, [0, 0, 0, 0, 0, 0, 0, 0, 0, 0, _, _, _], (Cov.cons' (t := 15) rfl (by rw [x9x (by omega) (by omega)]; rfl) Cov.nil), x6x, (HE.row rfl (by rw [q9q he]; rw [if_pos hwt]) (HE.box rfl rfl (HE.kill rfl (HE.kill rfl HE.nil)))), x5x, rfl⟩
end
section
def b0k (c : Bool) (vs : List Vi) : List (Value × AV) := vs.zipIdx.map fun p => (.int .i64 (p.2 : Int), .agg (a2c c p.1))
def b7u (n : Nat) : List Int := (List.range n).map fun (i : Nat) => (i : Int)
variable {c : Bool} {vs : List Vi} {i : Nat} {v : Vi}
theorem f3t (h : vs[i]? = some v) : (b0k c vs)[i]? = some (.int .i64 (i : Int), .agg (a2c c v)) := by
 rw [b0k, List.getElem?_map, List.getElem?_zipIdx, h]; simp
theorem a9p (c : Bool) (vs : List Vi) : (b0k c vs).map (·.1) = (b7u vs.length).map fun n => Value.int .i64 n := by
 apply List.ext_getElem?
 intro i
 simp only [b0k, b7u, List.getElem?_map, List.getElem?_zipIdx, List.getElem?_range]
 by_cases h : i < vs.length
 ·simp [h]
 ·rw [List.getElem?_eq_none (by omega : vs.length ≤ i)]; simp [h]
theorem d0r (h : i < n) : a7x (b7u n) (i : Int) = some i := by
 obtain ⟨j, hj⟩ := d1s (k := (i : Int)) (ks := b7u n) (List.mem_map.2 ⟨i, List.mem_range.2 h, rfl⟩)
 have := b7e hj
 simp only [b7u, List.getElem?_map] at this
 cases hr : (List.range n)[j]? with
 | none => rw [hr] at this; cases this
 | some k =>
  rw [hr] at this
  obtain ⟨q1, q2⟩ := List.getElem?_eq_some_iff.1 hr
  simp only [List.getElem_range] at q2
  simp only [Option.map_some, Option.some.injEq] at this
  have : j = i := by omega
  rw [hj, this]
theorem e8z (n : Nat) : a7x (b7u n) (n : Int) = none := b4c.2 fun h => by
 obtain ⟨k, h1, h2⟩ := List.mem_map.1 h
 rw [List.mem_range] at h1
 omega
theorem e5o (c : Bool) (vs : List Vi) (v : Vi) : b0k c (vs ++ [v]) = b0k c vs ++ [(.int .i64 (vs.length : Int), .agg (a2c c v))] := by
 simp [b0k, List.zipIdx_append]
theorem b9r {tt : TT} {et : TypeId} (h : vs[i]? = some v) : (∃ j kv, a7x (b7u vs.length) (i : Int) = some j ∧ (b0k c vs)[j]? = some (kv, .agg (a2c c v))) ∨ (a7x (b7u vs.length) (i : Int) = none ∧ ∃ S, tt et = some S ∧ AV.agg (a2c c v) = c0r S) :=
 .inl ⟨i, _, d0r (List.getElem?_eq_some_iff.1 h).1, f3t h⟩
theorem a1g (c : Bool) (vs : List Vi) : ∀ p ∈ b0k c vs, p.2.flatA = true := fun p hp => by
 obtain ⟨q, _, rfl⟩ := List.mem_map.1 hp; rfl
end
section
theorem d8b (c : Bool) (vs : List Vi) (k : Nat) (v : Vi) : b0k c (vs.set k v) = (b0k c vs).set k (.int .i64 (k : Int), .agg (a2c c v)) := by
 apply List.ext_getElem?
 intro i
 rw [List.getElem?_set, b0k, List.getElem?_map, List.getElem?_zipIdx, List.getElem?_set, b0k, List.getElem?_map, List.getElem?_zipIdx, List.length_map, List.length_zipIdx]
 by_cases e : k = i
 ·subst e
  by_cases h : k < vs.length
  ·simp [h]
  ·simp [h]
 ·simp [e]
theorem e9a {α : Type} {l : List α} {i : Nat} {a : α} (h : l[i]? = some a) : l.set i a = l := by
 obtain ⟨h1, rfl⟩ := List.getElem?_eq_some_iff.1 h
 exact List.set_getElem_self h1
end
section
theorem b5d (c : Bool) (n : Nd) (f inc ver g : Int) (es : List Ev) : a0q Tryz.prog 70 [.agg (u2u c n), .pv (.int .i64 f), .pv (.int .i64 inc), .pv (.int .i64 ver), .pv (.int .i64 g), q2q c es] (.agg (u2u true (u1u n f inc ver g es))) := by
 refine pX Tryz.f70 [.agg (u2u true (u1u n f inc ver g es))] 12 ?_
 refine dv 1 ?_
 refine y0y (id := 0) rfl rfl rfl (x3x (id := 1) v0v q0q rfl (dv 3 fun K K' => ?_))
 refine x0x rfl rfl rfl (p1p c n) (dc 1 (aI ?_ ?_))<;>intro hc2<;>try simp at hc2
 ·have fX : ¬ y5y n := a1o (by simpa using hc2)
  refine dv 1 ?_
  refine rlB v0v q0q ?_
  refine dv 2 ?_
  (rw [f0a fX]; exact ⟨_, _, rfl, e3x⟩)
 have fK : y5y n := a1e.1 (by simpa using hc2)
 have fS := fK.1
 have fB := w7w fS
 have fV := fS.2.2.2.2.2.1
 have fQ := fS.2.2.2.2.2.2.1
 have fb := c0z fS
 refine dv 3 ?_
 refine rlM [6, 7, 8] [_, _, _] (y4y c n fb) rfl rfl rfl ?_
 refine x3x (id := 2) v0v q0q rfl (dc 7 (fun K K' => aS ?_ ?_))<;>intro hg4<;>try simp at hg4
 ·have fU : ¬ a2g n f inc ver g es := by (rintro ⟨m1, m2, m3, m4, m5, m6, m7, m8, m9⟩; (simp_all; done))
  refine dv 37 ?_
  (rw [b1x fK fU]; exact ⟨_, _, rfl, b7l (n := n) rfl rfl rfl⟩)
 have fUp : n.up = true := hg4
 refine dv 1 ?_
 refine x0x rfl rfl rfl (z1z ..) (dc 3 (aS ?_ ?_))<;>intro h<;>try simp at h
 ·have fU : ¬ a2g n f inc ver g es := by (rintro ⟨m1, m2, m3, m4, m5, m6, m7, m8, m9⟩; omega)
  refine dv 32 ?_
  (rw [b1x fK fU]; exact ⟨_, _, rfl, b7l (n := n) rfl rfl rfl⟩)
 refine dc 6 (aS ?_ ?_)<;>intro hg6<;>try simp at hg6
 ·have fU : ¬ a2g n f inc ver g es := by (rintro ⟨m1, m2, m3, m4, m5, m6, m7, m8, m9⟩; omega)
  refine dv 26 ?_
  (rw [b1x fK fU]; exact ⟨_, _, rfl, b7l (n := n) rfl rfl rfl⟩)
 have f4 : ¬ f = n.id := hg6
 refine dv 3 ?_
 refine rlB r1r a4s ?_
 refine dv 0 ?_
 refine x0x rfl rfl rfl (b3j c ⟨inc, ver, es⟩) ?_
 refine dc 3 (aS ?_ ?_)<;>intro hg7<;>try simp at hg7
 ·have fvi : ¬ d6w ⟨inc, ver, es⟩ := a1o (by simpa using hg7)
  have fU : ¬ a2g n f inc ver g es := by (rintro ⟨m1, m2, m3, m4, m5, m6, m7, m8, m9⟩; exact fvi ⟨⟨by show 0 ≤ inc; omega, m5.2⟩, m6, m8⟩)
  refine dv 18 ?_
  (rw [b1x fK fU]; exact ⟨_, _, rfl, b7l (n := n) rfl rfl rfl⟩)
 have fvi : d6w ⟨inc, ver, es⟩ := a1e.1 (by simpa using hg7)
 have fv1 := fvi.1
 have fv2 := fvi.2.1
 have fv3 : a9f okE a2r es 100 = true := fvi.2.2
 dsimp only at fv1 fv2
 refine dc 4 (aS ?_ ?_)<;>intro h<;>try simp at h
 ·have fU : ¬ a2g n f inc ver g es := by (rintro ⟨m1, m2, m3, m4, m5, m6, m7, m8, m9⟩; omega)
  refine dv 14 ?_
  (rw [b1x fK fU]; exact ⟨_, _, rfl, b7l (n := n) rfl rfl rfl⟩)
 refine dv 1 ?_
 refine x0x rfl rfl rfl (z1z ..) (dc 3 (aS ?_ ?_))<;>intro h<;>try simp at h
 ·have fU : ¬ a2g n f inc ver g es := by (rintro ⟨m1, m2, m3, m4, m5, m6, m7, m8, m9⟩; omega)
  refine dv 9 ?_
  (rw [b1x fK fU]; exact ⟨_, _, rfl, b7l (n := n) rfl rfl rfl⟩)
 refine dv 2 ?_
 refine x0x rfl rfl rfl (u7u ..) (dc 2 (aI ?_ ?_))<;>intro h<;>try simp at h
 ·have fU : ¬ a2g n f inc ver g es := by (rintro ⟨m1, m2, m3, m4, m5, m6, m7, m8, m9⟩; omega)
  refine dv 4 ?_
  (rw [b1x fK fU]; exact ⟨_, _, rfl, b7l (n := n) rfl rfl rfl⟩)
 refine dv 5 fun K K' => ?_
 refine u0u 5 rfl fun hlen => ?_
 refine x4x (ι := Nat) (fun i γ1 => [(14, pI (i : Int))]) (fun i γ1 => []) (fun i => i ≤ es.length ∧ c9q es (fun _ e => q3q e.to = n.id ∧ (e.from' = -1 ∨ q3q e.from' = f)) i) (fun i => es.length - i) (q8q [1, 2, 3, 4, 5, 6, 12, 13] rfl) (a0o [0, 1, 2, 3, 4, 5, 6, 7, 8, 9, 10, 11] rfl) 0 ⟨by omega, a1p⟩ [] x6x x5x rfl fun i γ1 hi => ?_
 obtain ⟨k1, k2⟩ := hi
 refine dc 6 (fun K K' => aI ?_ ?_)<;>intro h<;>try simp at h
 ·obtain ⟨e, he⟩ := gE es i
  have heo : c1x e := of_decide_eq_true ((r3r fv3).2 e (List.mem_of_getElem? he))
  have heb := heo.2.2.1
  refine dv 9 fun K K' => ?_
  refine x0x rfl rfl rfl (a0p ..) (dc 4 (aS ?_ ?_))<;>intro hg15<;>try simp at hg15
  ·have fE : ¬ (q3q e.to = n.id ∧ (e.from' = -1 ∨ q3q e.from' = f)) := fun q => (by have := q.1; omega)
   refine dv 17 ?_
   have fU : ¬ a2g n f inc ver g es := fun q => fE (q.2.2.2.2.2.2.2.2 e (List.mem_of_getElem? he))
   refine dv 4 ?_
   (rw [b1x fK fU]; exact ⟨_, _, rfl, b7l (n := n) rfl rfl rfl⟩)
  have e1 : q3q e.to = n.id := hg15
  refine dc 7 (aS ?_ ?_)<;>intro h<;>try simp at h
  ·have hE : q3q e.to = n.id ∧ (e.from' = -1 ∨ q3q e.from' = f) := ⟨e1, .inl (by omega)⟩
   refine dv 13 ?_
   refine z8z rfl rfl rfl (dv 1 ?_)
   exact ⟨i + 1, ⟨⟨by omega, s6s k2 he hE⟩, by omega⟩, [], (Cov.cons' (t := 14) rfl (by rw [x9x (by omega) (by omega)]; rfl) Cov.nil), x6x, x5x, x5x, rfl⟩
  refine dv 5 ?_
  refine x0x rfl rfl rfl (a0p ..) (dc 4 (aS ?_ ?_))<;>intro hc17<;>try simp at hc17
  ·have hE : q3q e.to = n.id ∧ (e.from' = -1 ∨ q3q e.from' = f) := ⟨e1, .inr hc17⟩
   refine dv 3 ?_
   refine z8z rfl rfl rfl (dv 1 ?_)
   exact ⟨i + 1, ⟨⟨by omega, s6s k2 he hE⟩, by omega⟩, [], (Cov.cons' (t := 14) rfl (by rw [x9x (by omega) (by omega)]; rfl) Cov.nil), x6x, x5x, x5x, rfl⟩
  have fE : ¬ (q3q e.to = n.id ∧ (e.from' = -1 ∨ q3q e.from' = f)) := by (rintro ⟨q1, q2 | q2⟩ <;> omega)
  have fU : ¬ a2g n f inc ver g es := fun q => fE (q.2.2.2.2.2.2.2.2 e (List.mem_of_getElem? he))
  refine dv 4 ?_
  (rw [b1x fK fU]; exact ⟨_, _, rfl, b7l (n := n) rfl rfl rfl⟩)
 have hall := a3c k2 (by omega)
 have fH : a2g n f inc ver g es := ⟨fUp, by omega, by omega, f4, by omega, by omega, by omega, fv3, fun e he => by obtain ⟨i, hi⟩ := List.getElem?_of_mem he; exact hall i e hi⟩
 obtain ⟨k, rfl⟩ : ∃ k : Nat, f = (k : Int) := ⟨f.toNat, by have := fH.2.2.1; omega⟩
 have hk3 : k < 3 := by have := fH.2.2.1; omega
 obtain ⟨kn, hkn⟩ := gE n.known k
 obtain ⟨v, hv⟩ := gE n.views k
 have hes : es.length ≤ 100 := by have := (r3r fH.2.2.2.2.2.2.2.1).1; omega
 obtain ⟨M, hM⟩ : ∃ M, M = a9y n k inc ver g es := ⟨_, rfl⟩
 have hv9 : n.version ≤ 9998 := by have := fH.2.1; omega
 have hv0 := fS.1.2.2.2.2.1.1
 refine dv 1 ?_
 refine p7p (ι := Unit) (fun _i γ2 => []) (fun _i γ2 => [(8, ((0 + 1), .row 3 1 ((n.known.set k (max kn g)).map a2w)))]) (fun _i => True) (q8q [1, 2, 3, 5, 6, 12, 13] rfl) (a0o [0, 1, 2, 3, 4, 5, 6, 7, 9, 10, 11] rfl) ?_ fun _i γ2 hi => ?_
 ·refine dv 5 ?_
  refine z0z (j := k) rfl rfl a0n rfl s3s rfl rfl (y8y hkn) ?_
  refine dc 2 (aS ?_ ?_)<;>intro h<;>try simp at h
  ·have hmx : max kn g = kn := by omega
   refine dv 1 ?_
   exact ⟨(), trivial, [], x6x, x6x, (HE.row rfl (by rw [hmx, e9a hkn]) HE.nil), x5x, rfl⟩
  have hmx : max kn g = g := by omega
  refine dv 5 ?_
  refine z0z (j := k) rfl rfl a0n rfl s3s rfl rfl (y8y hkn) ?_
  refine a8t (el' := g) rfl rfl s3s rfl rfl rfl hkn rfl (by omega) (.val rfl rfl .nil) rfl rfl ?_
  exact ⟨(), trivial, [], x6x, x6x, (HE.row rfl (by (rw [hmx]; done)) HE.nil), x5x, rfl⟩
 ·try dsimp only [b1d, b1e]
  refine dv 6 ?_
  refine x3x (id := 3) r1r a4s rfl (dv 1 ?_)
  refine p7p (ι := Unit) (fun _i γ3 => []) (fun _i γ3 => [(2, ((0 + 1), .box 65 [pI M.id, .pv (.bool M.up), pI M.inc, pI M.g, .ref 6 (0 + 1), q2q true M.kept, r0r true M.outs, pI M.led, pI M.version, .ref 7 (0 + 1), .ref 8 (0 + 1), pI M.round, pI M.low])), (6, ((0 + 1), .row 44 5 ((M.lanes).map (q7q true)))), (7, ((0 + 1), .row 190 3 ((M.views).map (a2c true)))), (8, ((0 + 1), .row 3 1 (M.known.map a2w))), (4, ((γ3 4), .dead)), (5, ((γ3 5), .dead))]) (fun _i => True) (q8q [6, 12, 13] rfl) (a0o [0, 1, 3, 9, 10, 11] rfl) ?_ fun _i γ3 hi => ?_
  ·refine dc 6 (aS ?_ ?_)<;>intro h<;>try simp at h
   ·refine dv 11 ?_
    have hL : b4p v inc ver := .inl (by omega)
    refine dv 6 ?_
    refine x0x rfl rfl rfl (b3k c v.events es n.g) (dc 7 (fun K K' => aS ?_ ?_))<;>intro h<;>try simp at h
    ·have hlow : n.low = M.low := by rw [hM, s8s hv hkn hL]; show _ = chg n.g v.events (chg n.g es n.low v.events) es; rw [c2w n.g v.events es (m := n.low) (by have := fS.1.2.2.2.2.2.2; omega)]; omega
     refine dv 7 ?_
     refine y1y (id := 4) u4u rfl z2z rfl (dv 1 ?_)
     refine a2d v4v (zs := es.map y9y) rfl rfl u4u rfl z2z rfl rfl rfl (z9z (fun _ => rfl) _) rfl (by simp only [a0e, T56]; omega) (Le.ow_map _ (fun _ => rfl) (fun _ => rfl)) ?_
     refine rlB r1r a4s ?_
     refine z0z (j := k) rfl rfl a9v rfl r1r rfl rfl (y8y hv) ?_
     refine v7v (el' := ⟨inc, ver, es⟩) rfl rfl r1r rfl rfl rfl hv rfl (s4s rfl) rfl rfl ?_
     refine dv 0 ?_
     exact ⟨(), trivial, [0, 0, 0, 0, _, _], x6x, x6x, (HE.box rfl (by rw [← hlow]; (rw [hM, s8s hv hkn hL] <;> rfl)) (HE.row rfl (by (rw [hM, s8s hv hkn hL] <;> rfl)) (HE.row rfl (by (rw [hM, s8s hv hkn hL] <;> rfl)) (HE.row rfl (by (rw [hM, s8s hv hkn hL] <;> rfl)) (HE.kill rfl (HE.kill rfl HE.nil)))))), x5x, rfl⟩
    have hlow : chg n.g v.events (chg n.g es 41 v.events) es = M.low := by rw [hM, s8s hv hkn hL]; show _ = chg n.g v.events (chg n.g es n.low v.events) es; rw [c2w n.g v.events es (m := n.low) (by have := fS.1.2.2.2.2.2.2; omega)]; omega
    refine dv 10 ?_
    refine y1y (id := 4) u4u rfl z2z rfl (dv 1 ?_)
    refine a2d v4v (zs := es.map y9y) rfl rfl u4u rfl z2z rfl rfl rfl (z9z (fun _ => rfl) _) rfl (by simp only [a0e, T56]; omega) (Le.ow_map _ (fun _ => rfl) (fun _ => rfl)) ?_
    refine rlB r1r a4s ?_
    refine z0z (j := k) rfl rfl a9v rfl r1r rfl rfl (y8y hv) ?_
    refine v7v (el' := ⟨inc, ver, es⟩) rfl rfl r1r rfl rfl rfl hv rfl (s4s rfl) rfl rfl ?_
    refine dv 0 ?_
    exact ⟨(), trivial, [0, 0, 0, 0, _, _], x6x, x6x, (HE.box rfl (by rw [← hlow]; (rw [hM, s8s hv hkn hL] <;> rfl)) (HE.row rfl (by (rw [hM, s8s hv hkn hL] <;> rfl)) (HE.row rfl (by (rw [hM, s8s hv hkn hL] <;> rfl)) (HE.row rfl (by (rw [hM, s8s hv hkn hL] <;> rfl)) (HE.kill rfl (HE.kill rfl HE.nil)))))), x5x, rfl⟩
   refine dc 5 (aS ?_ ?_)<;>intro h<;>try simp at h
   ·refine dv 6 ?_
    have hL : ¬ b4p v inc ver := by rintro (q | ⟨q1, q2⟩) <;> omega
    have hlow : n.low = M.low := by rw [hM, a1q hv hkn hL]
    refine dv 1 ?_
    exact ⟨(), trivial, [0, 0, 0, 0, _, _], x6x, x6x, (HE.box rfl (by rw [← hlow]; (rw [hM, a1q hv hkn hL] <;> rfl)) (HE.row rfl (by (rw [hM, a1q hv hkn hL] <;> rfl)) (HE.row rfl (by (rw [hM, a1q hv hkn hL] <;> rfl)) (HE.row rfl (by (rw [hM, a1q hv hkn hL] <;> rfl)) (HE.kill rfl (HE.kill rfl HE.nil)))))), x5x, rfl⟩
   refine dc 6 (aS ?_ ?_)<;>intro h<;>try simp at h
   ·have hL : ¬ b4p v inc ver := by rintro (q | ⟨q1, q2⟩) <;> omega
    have hlow : n.low = M.low := by rw [hM, a1q hv hkn hL]
    refine dv 1 ?_
    exact ⟨(), trivial, [0, 0, 0, 0, _, _], x6x, x6x, (HE.box rfl (by rw [← hlow]; (rw [hM, a1q hv hkn hL] <;> rfl)) (HE.row rfl (by (rw [hM, a1q hv hkn hL] <;> rfl)) (HE.row rfl (by (rw [hM, a1q hv hkn hL] <;> rfl)) (HE.row rfl (by (rw [hM, a1q hv hkn hL] <;> rfl)) (HE.kill rfl (HE.kill rfl HE.nil)))))), x5x, rfl⟩
   have hL : b4p v inc ver := .inr ⟨by omega, by omega⟩
   refine dv 6 ?_
   refine x0x rfl rfl rfl (b3k c v.events es n.g) (dc 7 (fun K K' => aS ?_ ?_))<;>intro h<;>try simp at h
   ·have hlow : n.low = M.low := by rw [hM, s8s hv hkn hL]; show _ = chg n.g v.events (chg n.g es n.low v.events) es; rw [c2w n.g v.events es (m := n.low) (by have := fS.1.2.2.2.2.2.2; omega)]; omega
    refine dv 7 ?_
    refine y1y (id := 4) u4u rfl z2z rfl (dv 1 ?_)
    refine a2d v4v (zs := es.map y9y) rfl rfl u4u rfl z2z rfl rfl rfl (z9z (fun _ => rfl) _) rfl (by simp only [a0e, T56]; omega) (Le.ow_map _ (fun _ => rfl) (fun _ => rfl)) ?_
    refine rlB r1r a4s ?_
    refine z0z (j := k) rfl rfl a9v rfl r1r rfl rfl (y8y hv) ?_
    refine v7v (el' := ⟨inc, ver, es⟩) rfl rfl r1r rfl rfl rfl hv rfl (s4s rfl) rfl rfl ?_
    refine dv 0 ?_
    exact ⟨(), trivial, [0, 0, 0, 0, _, _], x6x, x6x, (HE.box rfl (by rw [← hlow]; (rw [hM, s8s hv hkn hL] <;> rfl)) (HE.row rfl (by (rw [hM, s8s hv hkn hL] <;> rfl)) (HE.row rfl (by (rw [hM, s8s hv hkn hL] <;> rfl)) (HE.row rfl (by (rw [hM, s8s hv hkn hL] <;> rfl)) (HE.kill rfl (HE.kill rfl HE.nil)))))), x5x, rfl⟩
   have hlow : chg n.g v.events (chg n.g es 41 v.events) es = M.low := by rw [hM, s8s hv hkn hL]; show _ = chg n.g v.events (chg n.g es n.low v.events) es; rw [c2w n.g v.events es (m := n.low) (by have := fS.1.2.2.2.2.2.2; omega)]; omega
   refine dv 10 ?_
   refine y1y (id := 4) u4u rfl z2z rfl (dv 1 ?_)
   refine a2d v4v (zs := es.map y9y) rfl rfl u4u rfl z2z rfl rfl rfl (z9z (fun _ => rfl) _) rfl (by simp only [a0e, T56]; omega) (Le.ow_map _ (fun _ => rfl) (fun _ => rfl)) ?_
   refine rlB r1r a4s ?_
   refine z0z (j := k) rfl rfl a9v rfl r1r rfl rfl (y8y hv) ?_
   refine v7v (el' := ⟨inc, ver, es⟩) rfl rfl r1r rfl rfl rfl hv rfl (s4s rfl) rfl rfl ?_
   refine dv 0 ?_
   exact ⟨(), trivial, [0, 0, 0, 0, _, _], x6x, x6x, (HE.box rfl (by rw [← hlow]; (rw [hM, s8s hv hkn hL] <;> rfl)) (HE.row rfl (by (rw [hM, s8s hv hkn hL] <;> rfl)) (HE.row rfl (by (rw [hM, s8s hv hkn hL] <;> rfl)) (HE.row rfl (by (rw [hM, s8s hv hkn hL] <;> rfl)) (HE.kill rfl (HE.kill rfl HE.nil)))))), x5x, rfl⟩
  ·try dsimp only [b1d, b1e]
   obtain ⟨w1, w2, w3⟩ := d0c n k inc ver g es
   rw [← hM] at w1 w2 w3
   have hwM : wk M := by rw [hM]; exact d7i (d2v fS) hes
   have hpcM : M.lanes.length = (q1q M.id 4).length := by rw [w1, w3]; exact fS.2.2.2.2.1
   have hwA : wk (nl M (w2w M M.lanes)) := c2v _ (Nat.le_refl _) hwM
   have hLA : (w2w M M.lanes).length ≤ 4 := hwA.1
   refine dv 3 ?_
   refine rlM [6, 7, 8] [_, _, _] (b5c M hwM) rfl rfl rfl ?_
   refine rlM [6, 7, 8] [_, _, _] (b3l c n (nl M (w2w M M.lanes)) (d2v fS) hwA w1.symm ⟨by omega, by omega⟩) rfl rfl rfl ?_
   refine dv 2 fun K K' => ?_
   refine v9v (b := c0g true (a6t n M).lanes) 2 4 rfl rfl rfl (.ref rfl (Le.ow_map _ (fun _ => rfl) (fun _ => rfl)) .nil) rfl rfl rfl rfl ?_
   refine v9v (b := c1z true (a6t n M).views) 2 9 rfl rfl rfl (.ref rfl (Le.ow_map _ (fun _ => rfl) (fun _ => rfl)) .nil) rfl rfl rfl rfl ?_
   refine v9v (b := a4p true (a6t n M).known) 2 10 rfl rfl rfl (.ref rfl (Le.ow_map _ (fun _ => rfl) (fun _ => rfl)) .nil) rfl rfl rfl rfl ?_
   refine dv 2 ?_
   refine x0x rfl rfl rfl (p1p true (a6t n M)) ?_
   refine dc 1 (aI ?_ ?_)<;>intro hc31<;>try simp at hc31
   ·have fX2 : ¬ y5y (a6t n M) := a1o (by simpa using hc31)
    refine dv 2 ?_
    refine rlM [9, 10, 11] [_, _, _] (y4y c n fb) rfl rfl rfl ?_
    refine dv 2 ?_
    (rw [d2y fK fH, ← hM, b4o fX2]; exact ⟨_, _, rfl, b7l (n := n) rfl rfl rfl⟩)
   have fK2 : y5y (a6t n M) := a1e.1 (by simpa using hc31)
   have fb2 := c0z fK2.1
   refine dv 3 ?_
   refine rlM [9, 10, 11] [_, _, _] (y4y true (a6t n M) fb2) rfl rfl rfl ?_
   refine dv 2 ?_
   (rw [d2y fK fH, ← hM, b1s fK2]; exact ⟨_, _, rfl, b7l (n := a6t n M) rfl rfl rfl⟩)
end
section
theorem a9q (c : Bool) (n : Nd) (w : Wo) : a0q Tryz.prog 74 [.agg (u2u c n), .agg (w0w c w)] (.tup [.agg (u2u true (p4p n w).1), w6w true (p4p n w).2]) := by
 refine pX Tryz.f74 [.agg (u2u true (p4p n w).1), w6w true (p4p n w).2] 12 ?_
 refine dv 1 ?_
 refine y0y (id := 0) rfl rfl rfl (y0y (id := 1) rfl rfl rfl (x3x (id := 2) v0v q0q rfl (dv 2 ?_)))
 refine y1y (id := 3) r8r rfl p0p rfl (dv 4 fun K K' => ?_)
 refine x0x rfl rfl rfl (p1p ..) (dc 1 (aI ?_ ?_))<;>intro hc2<;>try simp at hc2
 ·have fX : ¬ y5y n := a1o (by simpa using hc2)
  refine dv 1 ?_
  refine rlB v0v q0q ?_
  refine dv 4 ?_
  (rw [f5t fX]; exact ⟨_, _, rfl, b7m (a2s (l := ([] : List Wo)) rfl .nil)⟩)
 have fK : y5y n := a1e.1 (by simpa using hc2)
 have fS := fK.1
 have fb := c0z fS
 refine dc 7 (fun K K' => aS ?_ ?_)<;>intro hg4<;>try simp at hg4
 ·have fU : ¬ b2a n w := fun h => by have := h.1; simp_all
  refine dv 18 ?_
  try have fU : ¬ b2a n w := fun h => by have := h.2.2.1; have := h.2.2.2; omega
  refine dv 2 ?_
  refine rlM [9, 10, 11] [_, _, _] (y4y c n fb) rfl rfl rfl ?_
  refine dv 4 ?_
  (rw [d7n fK fU]; exact ⟨_, _, rfl, r6r rfl rfl rfl (a2s (l := ([] : List Wo)) rfl .nil)⟩)
 have fUp : n.up = true := hg4
 refine dv 1 ?_
 refine x0x rfl rfl rfl (b2z ..) (dc 3 (aS ?_ ?_))<;>intro hg5<;>try simp at hg5
 ·try have fU : ¬ b2a n w := fun h => absurd h.2.1 hg5
  refine dv 13 ?_
  try have fU : ¬ b2a n w := fun h => by have := h.2.2.1; have := h.2.2.2; omega
  refine dv 2 ?_
  refine rlM [9, 10, 11] [_, _, _] (y4y c n fb) rfl rfl rfl ?_
  refine dv 4 ?_
  (rw [d7n fK fU]; exact ⟨_, _, rfl, r6r rfl rfl rfl (a2s (l := ([] : List Wo)) rfl .nil)⟩)
 have fW : a4n w := hg5
 refine dc 7 (aS ?_ ?_)<;>intro j<;>try simp at j
 ·try have fU : ¬ b2a n w := fun h => by have := h.2.2.1; omega
  refine dv 6 ?_
  try have fU : ¬ b2a n w := fun h => by have := h.2.2.1; have := h.2.2.2; omega
  refine dv 2 ?_
  refine rlM [9, 10, 11] [_, _, _] (y4y c n fb) rfl rfl rfl ?_
  refine dv 4 ?_
  (rw [d7n fK fU]; exact ⟨_, _, rfl, r6r rfl rfl rfl (a2s (l := ([] : List Wo)) rfl .nil)⟩)
 refine dc 6 (aI ?_ ?_)<;>intro j<;>try simp at j
 ·try have fU : ¬ b2a n w := fun h => by have := h.2.2.1; have := h.2.2.2; omega
  refine dv 2 ?_
  refine rlM [9, 10, 11] [_, _, _] (y4y c n fb) rfl rfl rfl ?_
  refine dv 4 ?_
  (rw [d7n fK fU]; exact ⟨_, _, rfl, r6r rfl rfl rfl (a2s (l := ([] : List Wo)) rfl .nil)⟩)
 have fM : b2a n w := ⟨fUp, fW, by omega, by omega⟩
 refine dc 9 (fun K K' => aI ?_ ?_)<;>intro hc9<;>try simp at hc9
 ·have k1 : w.kind = 1 := hc9
  refine dv 12 ?_
  refine x0x rfl rfl rfl (b5d c n w.from' w.inc w.version w.g w.events) ?_
  refine dv 4 ?_
  (rw [b9n fK fM, f2u k1]; exact ⟨_, _, rfl, d3n (a2s (l := ([] : List Wo)) rfl .nil)⟩)
 have n1 : ¬ w.kind = 1 := hc9
 refine dc 3 (aI ?_ ?_)<;>intro hc10<;>try simp at hc10
 ·have k2 : w.kind = 2 := hc10
  refine dv 4 ?_
  refine x0x rfl rfl rfl (b2e ..) (dv 4 ?_)
  refine x3x (id := 4) v0v q0q rfl (x3x (id := 5) p0p b1k rfl (dc 5 (aI ?_ ?_)))<;>intro hc11<;>try simp at hc11
  ·have hr : (v6v n w.round).2.2 = true := hc11
   refine dv 3 ?_
   refine y3y (id := 6) r8r rfl p0p rfl rfl rfl rfl rfl rfl (dv 3 ?_)
   (rw [b9n fK fM, e8f k2 hr]; exact ⟨_, _, rfl, d3n (a2s (l := [(v6v n w.round).2.1]) rfl .nil)⟩)
  have hr : ¬ (v6v n w.round).2.2 = true := by simpa using hc11
  have hE : p4p n w = (n, []) := by rw [b9n fK fM, e8g k2 hr]
  refine dv 3 ?_
  refine rlM [9, 10, 11] [_, _, _] (y4y c n fb) rfl rfl rfl ?_
  refine dv 4 ?_
  (rw [hE]; exact ⟨_, _, rfl, r6r rfl rfl rfl (a2s (l := ([] : List Wo)) rfl .nil)⟩)
 have n2 : ¬ w.kind = 2 := hc10
 refine dc 3 (aS ?_ ?_)<;>intro hc12<;>try simp at hc12
 ·have n4 : ¬ w.kind = 4 := hc12
  refine dc 3 (aS ?_ ?_)<;>intro hc16<;>try simp at hc16
  ·have n6 : ¬ w.kind = 6 := hc16
   have hE : p4p n w = (n, []) := by rw [b9n fK fM, f2v n1 n2 n4 n6]
   refine dv 3 ?_
   refine rlM [9, 10, 11] [_, _, _] (y4y c n fb) rfl rfl rfl ?_
   refine dv 4 ?_
   (rw [hE]; exact ⟨_, _, rfl, r6r rfl rfl rfl (a2s (l := ([] : List Wo)) rfl .nil)⟩)
  have k6 : w.kind = 6 := hc16
  refine dc 6 (aS ?_ ?_)<;>intro hc17<;>try simp at hc17
  ·have h6 : ¬ w.inc = n.inc := hc17
   have hE : p4p n w = (n, []) := by rw [b9n fK fM, e8j k6 h6]
   refine dv 3 ?_
   refine rlM [9, 10, 11] [_, _, _] (y4y c n fb) rfl rfl rfl ?_
   refine dv 4 ?_
   (rw [hE]; exact ⟨_, _, rfl, r6r rfl rfl rfl (a2s (l := ([] : List Wo)) rfl .nil)⟩)
  have h6 : w.inc = n.inc := hc17
  refine dv 6 ?_
  refine x0x rfl rfl rfl (b2f ..) (dv 3 ?_)
  refine x3x (id := 8) v0v q0q rfl (dv 8 ?_)
  (rw [b9n fK fM, e8i k6 h6]; exact ⟨_, _, rfl, d3n (a2s (l := ([] : List Wo)) rfl .nil)⟩)
 have k4 : w.kind = 4 := hc12
 refine dc 7 (aS ?_ ?_)<;>intro j<;>try simp at j
 ·refine dv 4 ?_
  have h4 : ¬ (w.round = n.round ∧ 0 < w.round) := by omega
  have hE : p4p n w = (n, []) := by rw [b9n fK fM, d7o k4 h4]
  refine dv 3 ?_
  refine rlM [9, 10, 11] [_, _, _] (y4y c n fb) rfl rfl rfl ?_
  refine dv 4 ?_
  (rw [hE]; exact ⟨_, _, rfl, r6r rfl rfl rfl (a2s (l := ([] : List Wo)) rfl .nil)⟩)
 refine dc 4 (aS ?_ ?_)<;>intro j<;>try simp at j
 ·have h4 : ¬ (w.round = n.round ∧ 0 < w.round) := by omega
  have hE : p4p n w = (n, []) := by rw [b9n fK fM, d7o k4 h4]
  refine dv 3 ?_
  refine rlM [9, 10, 11] [_, _, _] (y4y c n fb) rfl rfl rfl ?_
  refine dv 4 ?_
  (rw [hE]; exact ⟨_, _, rfl, r6r rfl rfl rfl (a2s (l := ([] : List Wo)) rfl .nil)⟩)
 have h4 : w.round = n.round ∧ 0 < w.round := by omega
 refine dv 2 ?_
 refine rlM [9, 10, 11] [_, _, _] (y4y c n fb) rfl rfl rfl ?_
 refine dv 8 ?_
 refine rlB p0p b1k ?_
 refine y3y (id := 7) r8r rfl p0p rfl rfl rfl rfl rfl rfl (dv 3 ?_)
 (rw [b9n fK fM, e8h k4 h4]; exact ⟨_, _, rfl, r6r rfl rfl rfl (f8a (k := 5) (f := n.id) (t := 0) (i := n.inc) (v := n.version) (r := n.round) (g := 0) rfl .nil)⟩)
theorem c5r (c : Bool) (h : Hb) (n : Nd) : a0q Tryz.prog 311 [.agg (a8l true h), .agg (u2u c n)] (.tup [.agg (a8l true (q6q h n).1), .agg (u2u true (q6q h n).2.1), w6w true (q6q h n).2.2]) := by
 refine pX Tryz.f311 [.agg (a8l true (q6q h n).1), .agg (u2u true (q6q h n).2.1), w6w true (q6q h n).2.2] 17 ?_
 refine dv 1 ?_
 refine y0y (id := 0) rfl rfl rfl (y0y (id := 1) rfl rfl rfl (x3x (id := 2) a7g b6z rfl (x3x (id := 3) v0v q0q rfl (dv 2 ?_))))
 refine y1y (id := 4) r8r rfl p0p rfl (dv 4 fun K K' => ?_)
 refine x0x rfl rfl rfl (b0j ..) (dc 2 (aS ?_ ?_))<;>intro hg2<;>try simp at hg2
 ·have fX : ¬ (a0w h ∧ y5y n) := fun q => a1o (by simpa using hg2) q.1
  refine dv 5 ?_
  refine rlB a7g b6z ?_
  refine rlB v0v q0q ?_
  refine dv 5 ?_
  (rw [e4k fX]; exact ⟨_, _, rfl, d8a (b7m (a2s (l := ([] : List Wo)) rfl .nil))⟩)
 have fH : a0w h := a1e.1 (by simpa using hg2)
 refine dv 1 ?_
 refine x0x rfl rfl rfl (p1p ..) (dc 2 (aI ?_ ?_))<;>intro hc3<;>try simp at hc3
 ·try have fX : ¬ (a0w h ∧ y5y n) := fun q => a1o (by simpa using hc3) q.2
  refine dv 1 ?_
  refine rlB a7g b6z ?_
  refine rlB v0v q0q ?_
  refine dv 5 ?_
  (rw [e4k fX]; exact ⟨_, _, rfl, d8a (b7m (a2s (l := ([] : List Wo)) rfl .nil))⟩)
 have fK : y5y n := a1e.1 (by simpa using hc3)
 have fS := fK.1
 have fb := c0z fS
 refine dv 3 ?_
 refine rlM [11, 12, 13] [_, _, _] (y4y c n fb) rfl rfl rfl ?_
 refine x3x (id := 5) v0v q0q rfl (dv 4 ?_)
 refine s5s (.int .i64 (n.led + 1)) rfl rfl rfl (a6p rfl rfl (by have := fS.1.2.2.2.1; omega) (by have := fS.1.2.2.2.1; omega)) ?_
 refine dc 8 (fun K K' => aS ?_ ?_)<;>intro hg5<;>try simp at hg5
 ·have fU : ¬ a5i n := fun q => by have := q.1; omega
  refine dv 10 ?_
  try have fU : ¬ a5i n := fun q => by have := q.2.2.1; omega
  refine dv 2 ?_
  refine x0x rfl rfl rfl (a3l true h fH) (dv 1 ?_)
  refine rlM [14, 15, 16] [_, _, _] (y4y c n fb) rfl rfl rfl ?_
  refine dv 5 ?_
  (rw [c5f ⟨fH, fK⟩ fU]; exact ⟨_, _, rfl, a9m (r6r rfl rfl rfl (a2s (l := ([] : List Wo)) rfl .nil))⟩)
 have hid : n.id = 0 := hg5
 refine dc 5 (aS ?_ ?_)<;>intro hg6<;>try simp at hg6
 ·try have fU : ¬ a5i n := fun h => by have := h.2.1; simp_all
  refine dv 5 ?_
  try have fU : ¬ a5i n := fun q => by have := q.2.2.1; omega
  refine dv 2 ?_
  refine x0x rfl rfl rfl (a3l true h fH) (dv 1 ?_)
  refine rlM [14, 15, 16] [_, _, _] (y4y c n fb) rfl rfl rfl ?_
  refine dv 5 ?_
  (rw [c5f ⟨fH, fK⟩ fU]; exact ⟨_, _, rfl, a9m (r6r rfl rfl rfl (a2s (l := ([] : List Wo)) rfl .nil))⟩)
 have fUp : n.up = true := hg6
 refine dv 2 ?_
 refine x0x rfl rfl rfl (u7u ..) (dc 2 (aI ?_ ?_))<;>intro j<;>try simp at j
 ·try have fU : ¬ a5i n := fun q => by have := q.2.2.1; omega
  refine dv 2 ?_
  refine x0x rfl rfl rfl (a3l true h fH) (dv 1 ?_)
  refine rlM [14, 15, 16] [_, _, _] (y4y c n fb) rfl rfl rfl ?_
  refine dv 5 ?_
  (rw [c5f ⟨fH, fK⟩ fU]; exact ⟨_, _, rfl, a9m (r6r rfl rfl rfl (a2s (l := ([] : List Wo)) rfl .nil))⟩)
 have hld : n.led < 9999 := by omega
 refine dv 5 ?_
 refine b4a rfl rfl rfl (c4z (n := d3c n) rfl rfl rfl (.cl rfl .nil)) (b2e false (d3c n) (n.led + 1)) (.tup (a3z (e8a _) (a3z (e8b _) (a3z (.pv _) f2p)))) ?_
 refine dv 4 ?_
 refine x3x (id := 6) v0v q0q rfl (x3x (id := 7) p0p b1k rfl (dc 7 (fun K K' => aI ?_ ?_)))<;>intro hc9<;>try simp at hc9
 ·have fU : ¬ a5i n := fun q => by have hb := (d3k fK hld).2 ⟨q.2.1, q.2.2.2⟩; have hx := hc9; simp only [d3c] at hb hx; simp_all
  refine dv 2 ?_
  refine x0x rfl rfl rfl (a3l true h fH) (dv 1 ?_)
  refine rlM [14, 15, 16] [_, _, _] (y4y c n fb) rfl rfl rfl ?_
  refine dv 5 ?_
  (rw [c5f ⟨fH, fK⟩ fU]; exact ⟨_, _, rfl, a9m (r6r rfl rfl rfl (a2s (l := ([] : List Wo)) rfl .nil))⟩)
 have hrb := (d3k fK hld).1 (by have hx := hc9; simp only [d3c] at hx ⊢; exact hx)
 have fM : a5i n := ⟨hid, fUp, hld, hrb.2⟩
 have hEq := e8r (h := h) ⟨fH, fK⟩ fM
 refine dv 3 ?_
 refine x0x rfl rfl rfl (a3l true h fH) (x3x (id := 8) a7g b6z rfl (dv 8 ?_))
 refine y3y (id := 9) r8r rfl p0p rfl rfl rfl rfl rfl rfl (dv 3 ?_)
 refine y1y (id := 10) r8r rfl p0p rfl (dv 7 ?_)
 refine rlB p0p b1k ?_
 refine x0x rfl rfl rfl (b9q 2 0 0 0 0 (n.led + 1) 0) ?_
 refine dv 4 ?_
 (rw [show v6v (d3c n) (n.led + 1) = _ from hEq]; rw [d5i ⟨fH, fK⟩ fM]; exact ⟨_, _, rfl, f6k (a := [e2y (d3c n) (n.led + 1)]) (c := ([] : List Wo)) rfl rfl (d3n (.cl rfl .nil))⟩)
end
section
theorem b0w (c : Bool) (h : Hb) (n : Nd) (w : Wo) : a0q Tryz.prog 322 [.agg (a8l true h), .agg (u2u c n), .agg (w0w c w)] (.tup [.agg (a8l true (w3w h n w).1), .agg (u2u true (w3w h n w).2.1), w6w true (w3w h n w).2.2]) := by
 refine pX Tryz.f322 [.agg (a8l true (w3w h n w).1), .agg (u2u true (w3w h n w).2.1), w6w true (w3w h n w).2.2] 14 ?_
 refine dv 1 ?_
 refine y0y (id := 0) rfl rfl rfl (y0y (id := 1) rfl rfl rfl (y0y (id := 2) rfl rfl rfl (x3x (id := 3) a7g b6z rfl (x3x (id := 4) v0v q0q rfl (dv 2 ?_)))))
 refine y1y (id := 5) r8r rfl p0p rfl (dv 4 fun K K' => ?_)
 refine x0x rfl rfl rfl (b0j ..) (dc 2 (aS ?_ ?_))<;>intro hg2<;>try simp at hg2
 ·have fX : ¬ (a0w h ∧ y5y n) := fun q => a1o (by simpa using hg2) q.1
  refine dv 5 ?_
  refine rlB a7g b6z ?_
  refine rlB v0v q0q ?_
  refine dv 5 ?_
  (rw [f5x fX]; exact ⟨_, _, rfl, d8a (b7m (a2s (l := ([] : List Wo)) rfl .nil))⟩)
 have fH : a0w h := a1e.1 (by simpa using hg2)
 refine dv 1 ?_
 refine x0x rfl rfl rfl (p1p ..) (dc 2 (aI ?_ ?_))<;>intro hc3<;>try simp at hc3
 ·try have fX : ¬ (a0w h ∧ y5y n) := fun q => a1o (by simpa using hc3) q.2
  refine dv 1 ?_
  refine rlB a7g b6z ?_
  refine rlB v0v q0q ?_
  refine dv 5 ?_
  (rw [f5x fX]; exact ⟨_, _, rfl, d8a (b7m (a2s (l := ([] : List Wo)) rfl .nil))⟩)
 have fK : y5y n := a1e.1 (by simpa using hc3)
 have fS := fK.1
 have fb := c0z fS
 refine dv 3 ?_
 refine x0x rfl rfl rfl (a3l true h fH) (x3x (id := 6) a7g b6z rfl (dv 3 ?_))
 refine rlM [10, 11, 12] [_, _, _] (y4y c n fb) rfl rfl rfl ?_
 refine x3x (id := 7) v0v q0q rfl (dc 7 (fun K K' => aS ?_ ?_))<;>intro hg5<;>try simp at hg5
 ·have fU : ¬ a1r n w := fun q => by have := q.1; omega
  refine dv 19 ?_
  try have fU : ¬ a1r n w := fun q => by have := q.2.2.2.2; omega
  refine dv 8 ?_
  (rw [e5a ⟨fH, fK⟩ fU]; exact ⟨_, _, rfl, a9m (r6r rfl rfl rfl (a2s (l := ([] : List Wo)) rfl .nil))⟩)
 try have hid : n.id = 0 := hg5
 refine dc 5 (aS ?_ ?_)<;>intro hg6<;>try simp at hg6
 ·try have fU : ¬ a1r n w := fun q => by have := q.2.1; simp_all
  refine dv 14 ?_
  try have fU : ¬ a1r n w := fun q => by have := q.2.2.2.2; omega
  refine dv 8 ?_
  (rw [e5a ⟨fH, fK⟩ fU]; exact ⟨_, _, rfl, a9m (r6r rfl rfl rfl (a2s (l := ([] : List Wo)) rfl .nil))⟩)
 have fUp : n.up = true := hg6
 refine dv 1 ?_
 refine x0x rfl rfl rfl (b2z ..) (dc 3 (aS ?_ ?_))<;>intro hg7<;>try simp at hg7
 ·try have fU : ¬ a1r n w := fun q => absurd q.2.2.1 hg7
  refine dv 9 ?_
  try have fU : ¬ a1r n w := fun q => by have := q.2.2.2.2; omega
  refine dv 8 ?_
  (rw [e5a ⟨fH, fK⟩ fU]; exact ⟨_, _, rfl, a9m (r6r rfl rfl rfl (a2s (l := ([] : List Wo)) rfl .nil))⟩)
 have fW : a4n w := hg7
 refine dc 5 (aS ?_ ?_)<;>intro hg8<;>try simp at hg8
 ·try have fU : ¬ a1r n w := fun q => by have := q.2.2.2.1; omega
  refine dv 4 ?_
  try have fU : ¬ a1r n w := fun q => by have := q.2.2.2.2; omega
  refine dv 8 ?_
  (rw [e5a ⟨fH, fK⟩ fU]; exact ⟨_, _, rfl, a9m (r6r rfl rfl rfl (a2s (l := ([] : List Wo)) rfl .nil))⟩)
 try have hto : w.to = 0 := hg8
 refine dc 4 (aI ?_ ?_)<;>intro o<;>try simp at o
 ·try have fU : ¬ a1r n w := fun q => by have := q.2.2.2.2; omega
  refine dv 8 ?_
  (rw [e5a ⟨fH, fK⟩ fU]; exact ⟨_, _, rfl, a9m (r6r rfl rfl rfl (a2s (l := ([] : List Wo)) rfl .nil))⟩)
 have fM : a1r n w := ⟨hid, fUp, fW, hto, by omega⟩
 refine dc 9 (fun K K' => aI ?_ ?_)<;>intro hc11<;>try simp at hc11
 ·try have k7 : w.kind = 7 := hc11
  refine dv 5 ?_
  refine x0x rfl rfl rfl (d0q h.outs w.from') ?_
  refine dv 3 ?_
  refine x3x (id := 8) p0p b1k rfl (dc 6 (aS ?_ ?_))<;>intro hg12<;>try simp at hg12
  ·have hnone : (b7q w.from' h.outs).isSome = false := by simpa using hg12
   refine dv 6 ?_
   have hl : a4b h w = true := e8s hnone
   have hE : w3w h n w = ({ h with outs := a7n w true h.outs false }, n, []) := by rw [b7s ⟨fH, fK⟩ fM, f0e k7 hl]
   refine dv 4 ?_
   refine x0x rfl rfl rfl (a4y c w (d3b fW)) ?_
   refine x0x rfl rfl rfl (a8p h.outs w true (by have := b7p fH.2.2.2.1; omega)) ?_
   refine dv 10 ?_
   (rw [hE]; exact ⟨_, _, rfl, a9m (u := { h with outs := a7n w true h.outs false }) (r6r rfl rfl rfl (a2s (l := ([] : List Wo)) rfl .nil))⟩)
  have hsome : (b7q w.from' h.outs).isSome = true := hg12
  refine dc 6 (aS ?_ ?_)<;>intro o<;>try simp at o
  ·have hl : ¬ a4b h w = true := fun q => by have := (d3l hsome).1 q; omega
   have hE : w3w h n w = (h, n, []) := by rw [b7s ⟨fH, fK⟩ fM, f5y k7 hl]
   refine dv 9 ?_
   (rw [hE]; exact ⟨_, _, rfl, a9m (u := h) (r6r rfl rfl rfl (a2s (l := ([] : List Wo)) rfl .nil))⟩)
  have hl : a4b h w = true := (d3l hsome).2 (by omega)
  have hE : w3w h n w = ({ h with outs := a7n w true h.outs false }, n, []) := by rw [b7s ⟨fH, fK⟩ fM, f0e k7 hl]
  refine dv 4 ?_
  refine x0x rfl rfl rfl (a4y c w (d3b fW)) ?_
  refine x0x rfl rfl rfl (a8p h.outs w true (by have := b7p fH.2.2.2.1; omega)) ?_
  refine dv 10 ?_
  (rw [hE]; exact ⟨_, _, rfl, a9m (u := { h with outs := a7n w true h.outs false }) (r6r rfl rfl rfl (a2s (l := ([] : List Wo)) rfl .nil))⟩)
 try have n7 : ¬ w.kind = 7 := hc11
 refine dc 3 (aI ?_ ?_)<;>intro hc15<;>try simp at hc15
 ·try have k3 : w.kind = 3 := hc15
  refine dc 8 (fun K K' => aS ?_ ?_)<;>intro hg17<;>try simp at hg17
  ·try have hr : ¬ w.round = h.round := hg17
   refine dv 17 ?_
   have hm : ¬ d9o h w := fun q => by obtain ⟨q1, q2, q3, q4⟩ := q; omega
   have hE : w3w h n w = (h, n, []) := by rw [b7s ⟨fH, fK⟩ fM, d7y k3 hm]
   refine dv 8 ?_
   (rw [hE]; exact ⟨_, _, rfl, a9m (u := h) (r6r rfl rfl rfl (a2s (l := ([] : List Wo)) rfl .nil))⟩)
  try have hr : w.round = h.round := hg17
  refine dc 6 (aS ?_ ?_)<;>intro hg18<;>try simp at hg18
  ·try have hz : w.incs.length = 0 := by (rw [hg18]; rfl)
   refine dv 11 ?_
   have hm : ¬ d9o h w := fun q => by obtain ⟨q1, q2, q3, q4⟩ := q; omega
   have hE : w3w h n w = (h, n, []) := by rw [b7s ⟨fH, fK⟩ fM, d7y k3 hm]
   refine dv 8 ?_
   (rw [hE]; exact ⟨_, _, rfl, a9m (u := h) (r6r rfl rfl rfl (a2s (l := ([] : List Wo)) rfl .nil))⟩)
  have hi1 : ¬ w.incs.length = 0 := by (intro q; exact hg18 (List.length_eq_zero_iff.1 q))
  refine dc 6 (aS ?_ ?_)<;>intro hg19<;>try simp at hg19
  ·try have hz2 : w.versions.length = 0 := by (rw [hg19]; rfl)
   refine dv 5 ?_
   have hm : ¬ d9o h w := fun q => by obtain ⟨q1, q2, q3, q4⟩ := q; omega
   have hE : w3w h n w = (h, n, []) := by rw [b7s ⟨fH, fK⟩ fM, d7y k3 hm]
   refine dv 8 ?_
   (rw [hE]; exact ⟨_, _, rfl, a9m (u := h) (r6r rfl rfl rfl (a2s (l := ([] : List Wo)) rfl .nil))⟩)
  have hv1 : ¬ w.versions.length = 0 := by (intro q; exact hg19 (List.length_eq_zero_iff.1 q))
  refine dc 5 (aI ?_ ?_)<;>intro o<;>try simp at o
  ·have hm : ¬ d9o h w := fun q => by obtain ⟨q1, q2, q3, q4⟩ := q; omega
   have hE : w3w h n w = (h, n, []) := by rw [b7s ⟨fH, fK⟩ fM, d7y k3 hm]
   refine dv 8 ?_
   (rw [hE]; exact ⟨_, _, rfl, a9m (u := h) (r6r rfl rfl rfl (a2s (l := ([] : List Wo)) rfl .nil))⟩)
  have hm : d9o h w := ⟨hr, hi1, hv1, by omega⟩
  refine dv 5 ?_
  refine x0x rfl rfl rfl (a4y c w (d3b fW)) ?_
  refine x0x rfl rfl rfl (a8p h.ones w false (by have := b7p fH.2.1; omega)) ?_
  refine dc 7 (aS ?_ ?_)<;>intro o<;>try simp at o
  ·have h3 : ¬ (d7q h w).ones.length = 3 := by show ¬ (a7n w false h.ones false).length = 3; omega
   have hE : w3w h n w = (d7q h w, n, []) := by rw [b7s ⟨fH, fK⟩ fM, f6a k3 hm h3]
   refine dv 9 ?_
   (rw [hE]; exact ⟨_, _, rfl, a9m (u := d7q h w) (r6r rfl rfl rfl (a2s (l := ([] : List Wo)) rfl .nil))⟩)
  have h3 : (d7q h w).ones.length = 3 := by show (a7n w false h.ones false).length = 3; omega
  have hE : w3w h n w = ({ d7q h w with twos := [f6w h n] }, n, e6c (f2w h.round)) := by rw [b7s ⟨fH, fK⟩ fM, f5z k3 hm h3]
  refine dv 7 ?_
  refine rlB p0p b1k ?_
  refine y3y (id := 9) r8r rfl p0p rfl rfl rfl rfl rfl rfl (dv 7 ?_)
  refine rlB p0p b1k ?_
  refine x0x rfl rfl rfl (b9q 4 0 0 0 0 h.round 0) (dv 4 ?_)
  (rw [hE]; exact ⟨_, _, rfl, f6j (R := h.round) (a := (d7q h w).ones) (b := h.outs) (k := 5) (f := 0) (t := 0) (i := n.inc) (v := n.version) (r := h.round) (g := 0) rfl (r6r rfl rfl rfl (.cl rfl .nil))⟩)
 try have n3 : ¬ w.kind = 3 := hc15
 refine dc 3 (aS ?_ ?_)<;>intro hc25<;>try simp at hc25
 ·try have n5 : ¬ w.kind = 5 := hc25
  have hE : w3w h n w = (h, n, []) := by rw [b7s ⟨fH, fK⟩ fM, f7x n7 n3 n5]
  refine dv 9 ?_
  (rw [hE]; exact ⟨_, _, rfl, a9m (u := h) (r6r rfl rfl rfl (a2s (l := ([] : List Wo)) rfl .nil))⟩)
 try have k5 : w.kind = 5 := hc25
 refine dc 8 (fun K K' => aS ?_ ?_)<;>intro hg27<;>try simp at hg27
 ·try have hr : ¬ w.round = h.round := hg27
  refine dv 11 ?_
  have hm : ¬ e6d h w := fun q => by obtain ⟨q1, q2, q3⟩ := q; omega
  have hE : w3w h n w = (h, n, []) := by rw [b7s ⟨fH, fK⟩ fM, e5b k5 hm]
  refine dv 8 ?_
  (rw [hE]; exact ⟨_, _, rfl, a9m (u := h) (r6r rfl rfl rfl (a2s (l := ([] : List Wo)) rfl .nil))⟩)
 try have hr : w.round = h.round := hg27
 refine dc 6 (aS ?_ ?_)<;>intro o<;>try simp at o
 ·refine dv 5 ?_
  have hm : ¬ e6d h w := fun q => by obtain ⟨q1, q2, q3⟩ := q; omega
  have hE : w3w h n w = (h, n, []) := by rw [b7s ⟨fH, fK⟩ fM, e5b k5 hm]
  refine dv 8 ?_
  (rw [hE]; exact ⟨_, _, rfl, a9m (u := h) (r6r rfl rfl rfl (a2s (l := ([] : List Wo)) rfl .nil))⟩)
 refine dc 5 (aI ?_ ?_)<;>intro o<;>try simp at o
 ·have hm : ¬ e6d h w := fun q => by obtain ⟨q1, q2, q3⟩ := q; omega
  have hE : w3w h n w = (h, n, []) := by rw [b7s ⟨fH, fK⟩ fM, e5b k5 hm]
  refine dv 8 ?_
  (rw [hE]; exact ⟨_, _, rfl, a9m (u := h) (r6r rfl rfl rfl (a2s (l := ([] : List Wo)) rfl .nil))⟩)
 have hm : e6d h w := ⟨hr, by omega, by omega⟩
 refine dv 5 ?_
 refine x0x rfl rfl rfl (a4y c w (d3b fW)) ?_
 refine x0x rfl rfl rfl (a8p h.twos w false (by have := b7p fH.2.2.1; omega)) ?_
 refine dv 4 ?_
 refine x0x rfl rfl rfl (c5q true (b2d h w)) ?_
 refine dc 7 (aS ?_ ?_)<;>intro hc30<;>try simp at hc30
 ·have hj : ¬ (r4r (b2d h w)).2 = true := by simpa using hc30
  have hE : w3w h n w = ((b2d h w), n, []) := by rw [b7s ⟨fH, fK⟩ fM, f6c k5 hm hj]
  refine dv 9 ?_
  (rw [hE]; exact ⟨_, _, rfl, a9m (u := b2d h w) (r6r rfl rfl rfl (a2s (l := ([] : List Wo)) rfl .nil))⟩)
 have hj : (r4r (b2d h w)).2 = true := hc30
 have hjo := e4z hj
 have hE : w3w h n w = ((b2d h w), (s2s n h.round (r4r (b2d h w)).1).1, b6j (b2d h w) (r4r (b2d h w)).1 2) := by rw [b7s ⟨fH, fK⟩ fM, f6b k5 hm hj]
 refine dv 5 ?_
 refine x0x rfl rfl rfl (b2f c n h.round (r4r (b2d h w)).1) ?_
 refine dv 8 ?_
 refine rlB p0p b1k ?_
 refine rlM [13] [_] (c5p 6 0 0 0 0 h.round (r4r (b2d h w)).1) rfl rfl rfl ?_
 refine dv 5 fun K K' => ?_
 refine x4x (ι := Nat) (fun i γ1 => [(17, pI (i : Int))]) (fun i γ1 => [(13, ((0 + 1), .row 79 11 ((b6j (b2d h w) (r4r (b2d h w)).1 i).map (w0w true))))]) (fun i => i ≤ 2) (fun i => 2 - i) (q8q [6, 7, 10, 11, 16] rfl) (a0o [0, 1, 2, 3, 4, 5, 6, 7, 8, 9, 10, 11, 12] rfl) 0 (by omega) [] x6x (HE.row rfl (by rfl) HE.nil) rfl fun i γ1 hi => ?_
 refine dv 4 fun K K' => ?_
 refine a3w (n := 2) rfl r8r rfl rfl (by simp [b6j]) ?_
 refine dc 1 (aS ?_ ?_)<;>intro o<;>try simp at o
 ·obtain rfl : i = 2 := by omega
  refine dv 9 ?_
  (rw [hE]; exact ⟨_, _, rfl, a9m (u := b2d h w) (d3n (a2s (l := b6j (b2d h w) (r4r (b2d h w)).1 2) rfl .nil))⟩)
 have hi2 : i < 2 := by omega
 have hat := e4x (b2d h w) (r4r (b2d h w)).1 hi2
 have hlen : (b6j (b2d h w) (r4r (b2d h w)).1 i).length = 2 := by simp [b6j]
 obtain ⟨b, hb⟩ : ∃ b, (b2d h w).twos[i + 1]? = some b := ⟨_, List.getElem?_eq_getElem (by have := hjo.2.2.1; omega)⟩
 refine dv 10 fun K K' => ?_
 refine z0z (j := i) rfl rfl r8r rfl p0p rfl rfl (by omega) ?_
 refine dv 2 ?_
 refine b0p (j := i + 1) rfl rfl r8r rfl p0p rfl hb ?_
 refine dv 2 ?_
 refine z0z (j := i) rfl rfl r8r rfl p0p rfl rfl (by omega) ?_
 refine dv 1 ?_
 refine a8t (d0h (b2d h w) (r4r (b2d h w)).1 (i + 1)) rfl rfl s3s rfl rfl rfl hat rfl (by decide) (.val rfl rfl .nil) (by rw [show b.inc = (d0h (b2d h w) (r4r (b2d h w)).1 (i + 1)).inc from (e4y hb _).symm]; rfl) rfl ?_
 refine dv 2 ?_
 refine x8x (b := 1) rfl rfl (by omega) (dv 1 ?_)
 exact ⟨i + 1, ⟨by omega, by omega⟩, [], x6x, x6x, (HE.row rfl (by rw [d9r _ _ hi2]) HE.nil), x5x, rfl⟩
theorem c6x (c : Bool) (h : Hb) (n : Nd) : a0q Tryz.prog 326 [.agg (a8l true h), .agg (u2u c n)] (r0r true (a9l h n)) := by
 refine pX Tryz.f326 [r0r true (a9l h n)] 8 ?_
 refine dv 1 ?_
 refine y0y (id := 0) rfl rfl rfl (y0y (id := 1) rfl rfl rfl (dv 2 ?_))
 refine y1y (id := 2) a0x rfl w9w rfl (dv 4 fun K K' => ?_)
 refine x0x rfl rfl rfl (b0j ..) (dc 2 (aS ?_ ?_))<;>intro hg2<;>try simp at hg2
 ·have fX : ¬ (a0w h ∧ y5y n ∧ n.id = 0 ∧ h.outs.length = 2) := fun q => a1o (by simpa using hg2) q.1
  refine dv 15 ?_
  try have fX : ¬ (a0w h ∧ y5y n ∧ n.id = 0 ∧ h.outs.length = 2) := fun q => by have := q.2.2.2; omega
  refine dv 4 ?_
  (rw [d3m fX]; exact a5h (l := ([] : List Ou)) rfl rfl (fun _ => rfl) rfl)
 have fH : a0w h := a1e.1 (by simpa using hg2)
 refine dv 1 ?_
 refine x0x rfl rfl rfl (p1p ..) (dc 3 (aS ?_ ?_))<;>intro hg3<;>try simp at hg3
 ·try have fX : ¬ (a0w h ∧ y5y n ∧ n.id = 0 ∧ h.outs.length = 2) := fun q => a1o (by simpa using hg3) q.2.1
  refine dv 10 ?_
  try have fX : ¬ (a0w h ∧ y5y n ∧ n.id = 0 ∧ h.outs.length = 2) := fun q => by have := q.2.2.2; omega
  refine dv 4 ?_
  (rw [d3m fX]; exact a5h (l := ([] : List Ou)) rfl rfl (fun _ => rfl) rfl)
 have fK : y5y n := a1e.1 (by simpa using hg3)
 refine dc 5 (aS ?_ ?_)<;>intro hg4<;>try simp at hg4
 ·try have fX : ¬ (a0w h ∧ y5y n ∧ n.id = 0 ∧ h.outs.length = 2) := fun q => by have := q.2.2.1; omega
  refine dv 5 ?_
  try have fX : ¬ (a0w h ∧ y5y n ∧ n.id = 0 ∧ h.outs.length = 2) := fun q => by have := q.2.2.2; omega
  refine dv 4 ?_
  (rw [d3m fX]; exact a5h (l := ([] : List Ou)) rfl rfl (fun _ => rfl) rfl)
 try have hid : n.id = 0 := hg4
 refine dc 5 (aI ?_ ?_)<;>intro o<;>try simp at o
 ·try have fX : ¬ (a0w h ∧ y5y n ∧ n.id = 0 ∧ h.outs.length = 2) := fun q => by have := q.2.2.2; omega
  refine dv 4 ?_
  (rw [d3m fX]; exact a5h (l := ([] : List Ou)) rfl rfl (fun _ => rfl) rfl)
 have h2 : h.outs.length = 2 := by omega
 have fT : a0w h ∧ y5y n ∧ n.id = 0 ∧ h.outs.length = 2 := ⟨fH, fK, hid, h2⟩
 have hno := (w7w fK.1).2.2.1
 have hwo := d7z fH.2.2.2.1
 refine dv 9 ?_
 refine w5w (zs := n.outs.map q5q) rfl rfl a0x rfl w9w rfl rfl rfl (z9z (fun _ => rfl) _) rfl (by (simp only [a0e, r7r, a0c, a0d, a0r, a2y, T141]; omega)) ?_
 refine dv 5 fun K K' => ?_
 refine x4x (ι := Nat) (fun i γ1 => [(5, .ref 2 (γ1 2)), (6, pI (a1x n.g (h.outs.take i))), (7, pI (i : Int))]) (fun i γ1 => [(2, ((γ1 2), .row 141 5 ((n.outs ++ (h.outs.take i).flatMap Wo.outs).map q5q))), (4, ((γ1 4), .dead))]) (fun i => i ≤ h.outs.length) (fun i => h.outs.length - i) (x7x 2 rfl Cov.nil) (a0o [0, 1, 3, 5, 6, 7] rfl) 0 (by omega) [0, 0, _, 0, _] (x7x 5 rfl (Cov.cons' (t := 6) rfl (rfl) (x7x 7 rfl Cov.nil))) (HE.row rfl (by simp) (HE.kill rfl HE.nil)) rfl fun i γ1 hi => ?_
 refine dc 7 (fun K K' => aI ?_ ?_)<;>intro o<;>try simp at o
 ·obtain ⟨w, hw⟩ := gE h.outs i
  have hw96 := hwo w (List.mem_of_getElem? hw)
  have hfl := a1n (f := Wo.outs) (k := 96) (l := h.outs.take i) fun a ha => hwo a (List.mem_of_mem_take ha)
  have htl : (h.outs.take i).length ≤ 2 := by rw [List.length_take]; omega
  refine dv 3 fun K K' => ?_
  refine p7p (ι := Unit) (fun _i γ2 => [(6, pI (a1x n.g (h.outs.take (i + 1))))]) (fun _i γ2 => []) (fun _i => True) (q8q [2, 5, 7] rfl) (a0o [0, 1, 2, 3, 4, 5, 6, 7] rfl) ?_ fun _i γ2 hi => ?_
  ·refine dc 9 (aS ?_ ?_)<;>intro o<;>try simp at o
   ·have hlt : ¬ w.g < a1x n.g (h.outs.take i) := by omega
    refine dv 1 ?_
    exact ⟨(), trivial, [], (Cov.cons' (t := 6) rfl (congrArg (fun v : Int => AV.pv (.int .i64 v)) (d7x hw hlt)) Cov.nil), x6x, x5x, x5x, rfl⟩
   have hlt : w.g < a1x n.g (h.outs.take i) := by omega
   refine dv 8 ?_
   exact ⟨(), trivial, [], (Cov.cons' (t := 6) rfl (congrArg (fun v : Int => AV.pv (.int .i64 v)) (d7w hw hlt)) Cov.nil), x6x, x5x, x5x, rfl⟩
  ·try dsimp only [b1d, b1e]
   refine dv 8 ?_
   refine w5w (zs := (n.outs ++ (h.outs.take i).flatMap Wo.outs ++ w.outs).map q5q) rfl rfl a0x rfl w9w rfl rfl rfl (z9z (fun _ => rfl) _) (a7w _ _ _) (by (simp only [a0e, r7r, a0c, a0d, a0r, a2y, T141]; omega)) ?_
   refine dv 3 ?_
   refine x8x (b := 1) rfl rfl (by omega) (dv 1 ?_)
   exact ⟨i + 1, ⟨by omega, by omega⟩, [0, 0, _, 0, _], x6x, x6x, (HE.row rfl (by rw [a3y hw, List.append_assoc]) (HE.kill rfl HE.nil)), x5x, rfl⟩
 obtain rfl : i = h.outs.length := by omega
 rw [List.take_length]
 refine dv 1 ?_
 have hall : (n.outs ++ h.outs.flatMap Wo.outs).length ≤ 10000 := by have hfl := a1n (f := Wo.outs) (k := 96) (l := h.outs) hwo; rw [List.length_append]; omega
 obtain ⟨A, hA⟩ : ∃ A, A = (n.outs ++ h.outs.flatMap Wo.outs) := ⟨_, rfl⟩
 rw [← hA] at hall ⊢
 refine p8p 5 rfl rfl (fun _ => rfl) ?_
 refine dv 1 ?_
 refine y1y (id := 5) a0x rfl w9w rfl (dv 5 fun K K' => ?_)
 refine x4x (ι := Nat) (fun j γ3 => [(8, .ref 5 (γ3 5)), (9, pI (j : Int))]) (fun j γ3 => [(5, ((γ3 5), .row 141 5 (((A.take j).filter (d5m (a1x n.g h.outs))).map q5q))), (6, ((γ3 6), .dead)), (7, ((γ3 7), .dead))]) (fun j => j ≤ A.length) (fun j => A.length - j) (q8q [5, 6] rfl) (a0o [0, 1, 2, 3, 4] rfl) 0 (by omega) [0, 0, 0, 0, 0, _, _, _] x6x (HE.row rfl (by rw [List.take_zero]; rfl) (HE.kill rfl (HE.kill rfl HE.nil))) rfl fun j γ3 hi => ?_
 refine dc 6 (fun K K' => aS ?_ ?_)<;>intro o<;>try simp at o
 ·obtain rfl : j = A.length := by omega
  have hfl3 : (A.filter (d5m (a1x n.g h.outs))).length ≤ 10000 := Nat.le_trans (List.length_filter_le _ _) (by omega)
  refine dv 1 ?_
  rw [List.take_length]
  refine p8p 8 rfl rfl (fun _ => rfl) ?_
  refine dv 2 ?_
  refine x0x rfl rfl rfl (a4w true (A.filter (d5m (a1x n.g h.outs))) (by omega)) ?_
  refine dv 2 ?_
  (rw [f0g fT, ← hA]; exact x2x rfl rfl rfl)
 obtain ⟨p, hp⟩ := gE A j
 have hfl2 : ((A.take j).filter (d5m (a1x n.g h.outs))).length ≤ 10000 := Nat.le_trans (List.length_filter_le _ _) (by rw [List.length_take]; omega)
 refine dc 11 (fun K K' => aS ?_ ?_)<;>intro o<;>try simp at o
 ·have hq : ¬ d5m (a1x n.g h.outs) p = true := fun q => by have := of_decide_eq_true q; omega
  refine dv 3 ?_
  refine x8x (b := 1) rfl rfl (by omega) (dv 1 ?_)
  exact ⟨j + 1, ⟨by omega, by omega⟩, [0, 0, 0, 0, 0, _, _, _], x6x, x6x, (HE.row rfl (by rw [q9q hp]; rw [if_neg hq, List.append_nil]) (HE.kill rfl (HE.kill rfl HE.nil))), x5x, rfl⟩
 have hq : d5m (a1x n.g h.outs) p = true := decide_eq_true (by omega)
 refine dv 5 ?_
 refine v5v (out := .agg (q5q p)) rfl w9w rfl ?_
 refine y3y (id := 6) a0x rfl w9w rfl rfl rfl rfl rfl rfl ?_
 refine y6y (zs := ((A.take j).filter (d5m (a1x n.g h.outs)) ++ [p]).map q5q) rfl rfl a0x rfl w9w rfl rfl rfl rfl (by rfl) (z7z _ _ _) (by (simp only [a0e, r7r, a0c, a0d, a0r, a2y, T141]; omega)) ?_
 refine dv 3 ?_
 refine x8x (b := 1) rfl rfl (by omega) (dv 1 ?_)
 exact ⟨j + 1, ⟨by omega, by omega⟩, [0, 0, 0, 0, 0, _, _, _], x6x, x6x, (HE.row rfl (by rw [q9q hp]; rw [if_pos hq]) (HE.kill rfl (HE.kill rfl HE.nil))), x5x, rfl⟩
end
section
variable {W : Tw} {i : Nat}
theorem a6j (h : c0h W) {m : Nd} (hm : ndI m) : c0h { W with nodes := W.nodes.set i m } := ⟨h.1, by show (W.nodes.set i m).length = 3; rw [List.length_set]; exact h.2.1, f7y h.2.2.1 hm, h.2.2.2⟩
variable {r : List Wo}
theorem a7e (h : c0h W) (h1 : r.length ≤ 40) (h2 : ∀ x ∈ r, d0i x) : c0h { W with radio := r } := ⟨h.1, h.2.1, h.2.2.1, h1, h2, h.2.2.2.2.2⟩
theorem d3p (h : c0h W) {u : Hb} (hu : a0w u) : c0h { W with hub := u } := ⟨h.1, h.2.1, h.2.2.1, h.2.2.2.1, h.2.2.2.2.1, hu, h.2.2.2.2.2.2⟩
theorem f3u (h : c0h W) {s : List Ou} (hs : s.length ≤ 1000000) : c0h { W with sink := s } := ⟨h.1, h.2.1, h.2.2.1, h.2.2.2.1, h.2.2.2.2.1, h.2.2.2.2.2.1, hs⟩
theorem b3a (h : c0h W) (hi : i ≤ 2) : ∃ n, W.nodes[i]? = some n ∧ ndI n := by
 obtain ⟨n, hn⟩ := f3i h.2.1 i (by omega)
 exact ⟨n, hn, h.2.2.1 n (List.mem_of_getElem? hn)⟩
variable {m : List Wo}
theorem b5e (h : c0h W) (k : ∀ x ∈ m, d0i x) : c0h { W with radio := b2x W.radio m } := a7e h (e8o h.2.2.2.1) (e8p h.2.2.2.2.1 k)
theorem e5p {w : Wo} (h : m[i]? = some w) (hl : (r ++ m.take i).length < 40) : r ++ m.take i ++ [w] = r ++ m.take (i + 1) := by rw [z6z h, List.append_assoc]
theorem d8c (hr : r.length ≤ 40) (hi : i ≤ m.length) (h40 : r.length + i ≤ 40) (h : ¬ (i < m.length ∧ r.length + i < 40)) : r ++ m.take i = b2x r m := by
 unfold b2x
 rcases Nat.lt_or_ge i m.length with h1 | h1
 ·rw [show 40 - r.length = i from by omega]
 ·rw [List.take_of_length_le h1, List.take_of_length_le (by omega)]
variable {h : Hb} {n : Nd}
theorem e9b : (a9l h n).length ≤ 10000 := by
 by_cases k : a0w h ∧ y5y n ∧ n.id = 0 ∧ h.outs.length = 2
 ·rw [f0g k, b5q]
  have hno := (w7w k.2.1.1).2.2.1
  have hwo := d7z k.1.2.2.2.1
  have hfl := a1n (f := Wo.outs) (k := 96) (l := h.outs) hwo
  refine Nat.le_trans (List.length_filter_le _ _) ?_
  rw [List.length_append]; omega
 ·rw [d3m k]; exact Nat.zero_le _

def kpB : Bool → List Nat
 | true => [0]
 | false => [0, 1]
def kpS : List Wo → List Nat
 | [] => [0]
 | _ :: _ => []
theorem d5o (γ : Nat → Nat) (b : Bool) (f : List Nat → Nat → Nat) (h0 : f [γ 0, γ 1] 0 = γ 0) (h1 : f [γ 0, γ 1] 1 = γ 1) : (kpB b).map (f [γ 0, γ 1]) = (kpB b).map γ := by
 cases b <;> simp [kpB, h0, h1]
theorem c5s (k : a0w h ∧ y5y n) : ((q6q h n).2.2 = [] ∧ ¬ n.led < (q6q h n).2.1.led) ∨ n.led < (q6q h n).2.1.led := by
 by_cases m : a5i n
 ·rw [d5i k m]; exact .inr (by show n.led < n.led + 1; omega)
 ·rw [c5f k m]; exact .inl ⟨rfl, by show ¬ n.led < n.led; omega⟩
variable {j : Nat}
theorem e5q (h : c0h W) : (W.radio.take j ++ W.radio.drop (j + 1)).length ≤ 40 := by
 have := h.2.2.2.1
 simp only [List.length_append, List.length_take, List.length_drop]; omega
theorem e5r (h : c0h W) : ∀ q ∈ W.radio.take j ++ W.radio.drop (j + 1), d0i q := fun q hq =>
 h.2.2.2.2.1 q ((List.mem_append.1 hq).elim List.mem_of_mem_take List.mem_of_mem_drop)
theorem f3v {W T : Tw} (h : c0h W) (k : c0h T) : c0h { W with nodes := T.nodes } := ⟨h.1, k.2.1, k.2.2.1, h.2.2.2⟩
theorem b2g (bs : List Nat) (p n : Nat) : pk bs p n ≤ n := by
 rcases Nat.eq_zero_or_pos n with h | h
 ·subst h; unfold pk; rw [if_pos (.inl (by omega))]; exact Nat.le_refl _
 ·exact Nat.le_of_lt (a3q bs p n h)

def pSm (S : Sm) (p : Nat) : Sm := ⟨S.w, S.list, p⟩
theorem a3o {S : Sm} {c d p : Nat} (h : smOk S c) (hd : c ≤ d) (hp : p ≤ d) : smOk (pSm S p) d := ⟨h.1, Nat.le_trans h.2.1 hd, hp⟩

def f6x (l : List Ru) : Prop := ∀ (i : Nat) r, l[i]? = some r → r.kind = (i : Int) ∧ d1a r
theorem ru0 {k : Int} : d1a ⟨k, []⟩ := ⟨fun o h => (by cases h), Nat.zero_le _, Nat.zero_le _, Nat.zero_le _⟩
theorem f6m {l : List Ru} (hl : l.length ≤ 3) (h : f6x l) : e4i ⟨l⟩ := ⟨by show l.length ≤ 4; omega, fun i r hr => by
 have hi : i < l.length := (List.getElem?_eq_some_iff.1 hr).1
 have h1 := h i r hr
 refine ⟨by omega, h1.2, fun p h0 hp => ?_⟩
 have h2 := h _ p hp
 omega⟩
theorem f6n {l : List Ru} {ops : List Op_} {q q1 q2 : Nat} (h : f6x l) (ho : d1a ⟨(l.length : Int), ops⟩) (hl : l.length < 3) (h3 : q1 ≤ q + 40 * l.length) (h4 : q2 ≤ q1 + 40) : (l ++ [(⟨(l.length : Int), ops⟩ : Ru)]).length ≤ 3 ∧ f6x (l ++ [(⟨(l.length : Int), ops⟩ : Ru)]) ∧ q2 ≤ q + 40 * (l ++ [(⟨(l.length : Int), ops⟩ : Ru)]).length := by
 rw [List.length_append]
 refine ⟨by show l.length + 1 ≤ 3; omega, fun i r hr => ?_, by show q2 ≤ q + 40 * (l.length + 1); omega⟩
 rcases Nat.lt_or_ge i l.length with hi | hi
 ·rw [List.getElem?_append_left hi] at hr; exact h i r hr
 ·rw [List.getElem?_append_right hi] at hr
  cases e : i - l.length with
  | zero => rw [e] at hr; cases hr; exact ⟨by show (l.length : Int) = (i : Int); omega, ho⟩
  | succ n => rw [e] at hr; simp at hr
variable {l : List Ap}
theorem f6o {rs : List Ru} {p0 q q1 : Nat} (h : ∀ a ∈ l, e4i a) (ha : e4i ⟨rs⟩) (hl : l.length < 4) (h3 : q ≤ p0 + 120 * l.length) (h4 : q1 ≤ q + 40 * rs.length) (hr : rs.length ≤ 3) : (l ++ [(⟨rs⟩ : Ap)]).length ≤ 4 ∧ (∀ a ∈ l ++ [(⟨rs⟩ : Ap)], e4i a) ∧ q1 ≤ p0 + 120 * (l ++ [(⟨rs⟩ : Ap)]).length := by
 rw [List.length_append]
 refine ⟨by show l.length + 1 ≤ 4; omega, fun a hm => ?_, by show q1 ≤ p0 + 120 * (l.length + 1); omega⟩
 rcases List.mem_append.1 hm with hm | hm
 ·exact h a hm
 ·rw [List.mem_singleton.1 hm]; exact ha
theorem e9c (h : a7m l) : c0h ⟨0, l, b0t 3, [], hb0, []⟩ := ⟨h, rfl, fun n hn => by
 obtain ⟨i, hi, rfl⟩ := List.mem_map.1 hn
 have := List.mem_range.1 hi
 exact f3k _ (by omega), Nat.zero_le _, fun x h => (by cases h), e4s, Nat.zero_le _⟩
variable {p c : Nat}
theorem e9d (h : a7m l) (hp : p ≤ c) : smOk ⟨⟨0, l, b0t 3, [], hb0, []⟩, [], p⟩ c := ⟨e9c h, Nat.zero_le _, hp⟩
end
section
theorem c2h (r : List Wo) (hr : r.length ≤ 40) : Meth Tryz.prog 312 1 [0] [.ref 0 0, w6w true ([] : List Wo)] [(0, (0, .row 79 11 ((r).map (w0w true))))] (.ref 0 0) [(0, (0, .row 79 11 ((r).map (w0w true))))] := by
 refine mX Tryz.f312 [.ref 0 0] 1 2 fun γ => ?_
 refine dv 6 fun K K' => ?_
 refine x4x (ι := Nat) (fun i γ1 => [(0, .ref 0 (γ 0)), (5, pI (i : Int))]) (fun i γ1 => [(0, ((γ 0), .row 79 11 ((r).map (w0w true)))), (1, ((γ1 1), .dead)), (2, ((γ1 2), .dead))]) (fun i => i = 0) (fun i => i) (x7x 1 rfl Cov.nil) HE.nil 0 rfl [0, _, _] x6x x5x rfl fun i γ1 hi => ?_
 subst hi
 refine dv 7 fun K K' => ?_
 refine e6o rfl rfl (fun hg3 => ?_) (fun hg3 => ?_)
 ·(simp at hg3; done)
 try simp at hg3
 refine dv 3 ?_
 refine a0z rfl (fun hc5 => ?_) (fun hc5 => ?_)
 ·(simp at hc5; done)
 try simp at hc5
 refine dv 5 ?_
 exact ⟨[γ 0], rfl, rfl, x5x⟩
theorem c2i (r m : List Wo) (hr : r.length ≤ 40) : Meth Tryz.prog 312 1 [] [.ref 0 0, w6w true m] [(0, (0, .row 79 11 ((r).map (w0w true))))] (.ref 0 0) [(0, (0, .row 79 11 ((b2x r m).map (w0w true))))] := by
 refine mX Tryz.f312 [.ref 0 0] 1 2 fun γ => ?_
 refine dv 6 fun K K' => ?_
 refine x4x (ι := Nat) (fun i γ1 => [(0, .ref 0 (γ1 0)), (5, pI (i : Int))]) (fun i γ1 => [(0, ((γ1 0), .row 79 11 ((r ++ m.take i).map (w0w true)))), (1, ((γ1 1), .dead)), (2, ((γ1 2), .dead))]) (fun i => i ≤ m.length ∧ r.length + i ≤ 40) (fun i => m.length - i) (x7x 1 rfl Cov.nil) HE.nil 0 ⟨Nat.zero_le _, hr⟩ [_, _, _] x6x (HE.row rfl (by simp) (HE.kill rfl (HE.kill rfl HE.nil))) rfl fun i γ1 hi => ?_
 obtain ⟨h1, h2⟩ := hi
 have hl : (r ++ m.take i).length = r.length + i := by simp; omega
 refine dc 7 (fun K K' => aS ?_ ?_)<;>intro h<;>try simp at h
 ·refine dv 9 ?_
  exact ⟨[_], rfl, rfl, HE.row rfl (by rw [d8c hr h1 h2 (by omega)]) HE.nil⟩
 refine dv 1 ?_
 refine a3w (n := r.length + i) rfl r8r rfl rfl (by rw [List.length_map]; exact hl) ?_
 refine dc 2 (aS ?_ ?_)<;>intro h<;>try simp at h
 ·refine dv 5 ?_
  exact ⟨[_], rfl, rfl, HE.row rfl (by rw [d8c hr h1 h2 (by omega)]) HE.nil⟩
 obtain ⟨w, hw⟩ := gE m i
 refine dv 9 fun K K' => ?_
 refine y3y (id := 1) r8r rfl p0p rfl rfl rfl rfl rfl rfl ?_
 refine y6y (zs := (r ++ m.take i ++ [w]).map (w0w true)) rfl rfl r8r rfl p0p rfl rfl rfl rfl (by rfl) (z7z (w0w true) _ w) (by (simp only [a0e, r7r, a0c, a0d, a0r, a2y, T79]; omega)) ?_
 refine dv 3 ?_
 refine x8x (b := 1) rfl rfl (by omega) (dv 1 ?_)
 exact ⟨i + 1, ⟨⟨by omega, by omega⟩, by omega⟩, [_, _, _], x6x, x6x, (HE.row rfl (by rw [← e5p hw (by rw [hl]; omega)]) (HE.kill rfl (HE.kill rfl HE.nil))), x5x, rfl⟩
theorem a1l (r m : List Wo) (hr : r.length ≤ 40) : Meth Tryz.prog 312 1 (kpS m) [.ref 0 0, w6w true m] [(0, (0, .row 79 11 ((r).map (w0w true))))] (.ref 0 0) [(0, (0, .row 79 11 ((b2x r m).map (w0w true))))] := by
 cases m with
 | nil =>
  have e : b2x r [] = r := by simp [b2x]
  rw [e]; exact c2h r hr
 | cons x l => exact c2i r (x :: l) hr
end
section
theorem c5t (c : Bool) (n : Nd) : a0q Tryz.prog 54 [.agg (u2u c n)] (.agg (u2u true (a8i n))) := by
 refine pX Tryz.f54 [.agg (u2u true (a8i n))] 6 ?_
 refine dv 1 ?_
 refine y0y (id := 0) rfl rfl rfl (x3x (id := 1) v0v q0q rfl (dv 3 fun K K' => ?_))
 refine x0x rfl rfl rfl (p1p ..) (dc 1 (aI ?_ ?_))<;>intro hc2<;>try simp at hc2
 ·have fX : ¬ y5y n := a1o (by simpa using hc2)
  refine dv 1 ?_
  refine rlB v0v q0q ?_
  refine dv 2 ?_
  (rw [d9f fX]; exact ⟨_, _, rfl, e3x⟩)
 have fK : y5y n := a1e.1 (by simpa using hc2)
 have fS := fK.1
 have fB := w7w fS
 have fb := c0z fS
 refine dv 3 ?_
 refine rlM [3, 4, 5] [_, _, _] (a6u c n fb.1 fb.2.1 fb.2.2.1 fb.2.2.2.1) rfl rfl rfl ?_
 refine x3x (id := 2) v0v q0q rfl (dv 8 ?_)
 (rw [c0x fK]; exact ⟨_, _, rfl, b7l (n := ({ a2m n with up := false } : Nd)) rfl rfl rfl⟩)
theorem c5u (c : Bool) (n : Nd) : a0q Tryz.prog 58 [.agg (u2u c n)] (.agg (u2u true (a5e n))) := by
 refine pX Tryz.f58 [.agg (u2u true (a5e n))] 6 ?_
 refine dv 1 ?_
 refine y0y (id := 0) rfl rfl rfl (x3x (id := 1) v0v q0q rfl (dv 3 fun K K' => ?_))
 refine x0x rfl rfl rfl (p1p ..) (dc 1 (aI ?_ ?_))<;>intro hc2<;>try simp at hc2
 ·have fX : ¬ y5y n := a1o (by simpa using hc2)
  refine dv 1 ?_
  refine rlB v0v q0q ?_
  refine dv 2 ?_
  (rw [d9g fX]; exact ⟨_, _, rfl, e3x⟩)
 have fK : y5y n := a1e.1 (by simpa using hc2)
 have fS := fK.1
 have fB := w7w fS
 have fb := c0z fS
 refine dc 6 (fun K K' => aS ?_ ?_)<;>intro j<;>try simp at j
 ·refine dv 5 ?_
  have fU : n.up = true ∨ 9999 ≤ n.inc := by (simp_all; done)
  refine dv 2 ?_
  refine rlM [3, 4, 5] [_, _, _] (y4y c n fb) rfl rfl rfl ?_
  refine dv 2 ?_
  (rw [b5o fK fU]; exact ⟨_, _, rfl, b7l rfl rfl rfl⟩)
 refine dv 2 ?_
 refine x0x rfl rfl rfl (u7u ..) (dc 2 (aI ?_ ?_))<;>intro hc5<;>try simp at hc5
 ·have fU : n.up = true ∨ 9999 ≤ n.inc := .inr hc5
  refine dv 2 ?_
  refine rlM [3, 4, 5] [_, _, _] (y4y c n fb) rfl rfl rfl ?_
  refine dv 2 ?_
  (rw [b5o fK fU]; exact ⟨_, _, rfl, b7l rfl rfl rfl⟩)
 have fU : ¬ (n.up = true ∨ 9999 ≤ n.inc) := by rintro (h | h) <;> first | omega | (simp_all; done)
 refine dv 3 ?_
 refine rlM [3, 4, 5] [_, _, _] (a6u c n fb.1 fb.2.1 fb.2.2.1 fb.2.2.2.1) rfl rfl rfl ?_
 refine x3x (id := 2) v0v q0q rfl (dv 7 ?_)
 refine s5s (.int .i64 (n.inc + 1)) rfl rfl rfl (a6p rfl rfl (by have := fS.1.2.1; omega) (by have := fS.1.2.1; omega)) ?_
 refine dv 9 ?_
 (rw [c0y fK fU]; exact ⟨_, _, rfl, b7l (n := ({ a2m n with up := true, inc := n.inc + 1, version := 1 } : Nd)) rfl rfl rfl⟩)
end
section
theorem c5v (c : Bool) (n : Nd) : a0q Tryz.prog 49 [.agg (u2u c n)] (w6w true (c4p n)) := by
 refine pX Tryz.f49 [w6w true (c4p n)] 8 ?_
 refine dv 1 ?_
 refine y0y (id := 0) rfl rfl rfl (dv 2 ?_)
 refine y1y (id := 1) r8r rfl p0p rfl (dv 4 fun K K' => ?_)
 refine x0x rfl rfl rfl (p1p ..) (dc 2 (aS ?_ ?_))<;>intro hg2<;>try simp at hg2
 ·have fX : ¬ (y5y n ∧ n.up = true) := fun h => a1o (by simpa using hg2) h.1
  refine dv 8 ?_
  (rw [e2t fX]; exact a5h (l := ([] : List Wo)) rfl rfl (fun _ => rfl) rfl)
 have fK : y5y n := a1e.1 (by simpa using hg2)
 have fS := fK.1
 have fB := w7w fS
 have fV := fS.2.2.2.2.2.1
 refine dc 4 (aI ?_ ?_)<;>intro hc3<;>try simp at hc3
 ·have fX : ¬ (y5y n ∧ n.up = true) := by (intro h; simp_all; done)
  refine dv 4 ?_
  (rw [e2t fX]; exact a5h (l := ([] : List Wo)) rfl rfl (fun _ => rfl) rfl)
 have fU : n.up = true := hc3
 refine dv 5 fun K K' => ?_
 refine x4x (ι := Nat) (fun i γ1 => [(3, .ref 1 (γ1 1)), (4, pI (i : Int))]) (fun i γ1 => [(1, ((γ1 1), .row 79 11 ((a7l n i).map (w0w true)))), (2, ((γ1 2), .dead)), (3, ((γ1 3), .dead))]) (fun i => i ≤ 3) (fun i => 3 - i) (x7x 1 rfl Cov.nil) (a0o [0, 4, 5, 6, 7] rfl) 0 (by omega) [0, _, _, _] x6x (HE.row rfl (by rfl) (HE.kill rfl (HE.kill rfl HE.nil))) rfl fun i γ1 hi => ?_
 refine dc 4 (fun K K' => aI ?_ ?_)<;>intro j<;>try simp at j
 ·refine dc 8 (fun K K' => aS ?_ ?_)<;>intro hc8<;>try simp at hc8
  ·have hto : (i : Int) = n.id := hc8
   refine dv 1 ?_
   skip
   refine dv 2 ?_
   refine z8z rfl rfl rfl (dv 1 ?_)
   exact ⟨i + 1, ⟨by omega, by omega⟩, [0, _, _, _], (x7x 3 rfl (Cov.cons' (t := 4) rfl (by rw [x9x (by omega) (by omega)]; rfl) Cov.nil)), x6x, (HE.row rfl (by rw [d7a hto]) (HE.kill rfl (HE.kill rfl HE.nil))), x5x, rfl⟩
  have hto : ¬ (i : Int) = n.id := hc8
  have htl := c4m fS (i : Int)
  have htn := c4o n i
  refine dv 13 ?_
  refine x0x rfl rfl rfl (a9n c n i (by omega) fS.2.2.2.2.2.2.1 (by have := b5p fS; omega) (by omega)) ?_
  refine rlB p0p b1k ?_
  refine y3y (id := 2) r8r rfl p0p rfl rfl rfl rfl rfl rfl ?_
  refine y6y (zs := (a7l n i).map (w0w true) ++ [[pI (b4k n (i : Int)).kind, pI (b4k n (i : Int)).from', pI (b4k n (i : Int)).to, pI (b4k n (i : Int)).inc, pI (b4k n (i : Int)).version, pI (b4k n (i : Int)).round, pI (b4k n (i : Int)).g, .pv (.slice none 0 0), .pv (.slice none 0 0), q2q true (a1w n (i : Int)), .pv (.slice none 0 0)]]) rfl rfl r8r rfl p0p rfl rfl rfl rfl rfl rfl (by (simp only [a0e, r7r, a0c, a0d, a0r, a2y, T79] at *; omega)) ?_
  refine dv 1 ?_
  refine e9t 1 rfl (LeLs.snoc (x' := w0w true (b4k n (i : Int))) (.same (.same (.same (.same (.same (.same (.same (.le rfl .nil rfl (.le rfl .nil rfl (.same (.le rfl .nil rfl .nil))))))))))) _) ?_
  refine dv 2 ?_
  refine z8z rfl rfl rfl (dv 1 ?_)
  exact ⟨i + 1, ⟨by omega, by omega⟩, [0, _, _, _], (x7x 3 rfl (Cov.cons' (t := 4) rfl (by rw [x9x (by omega) (by omega)]; rfl) Cov.nil)), x6x, (HE.row rfl (by (rw [d6z hto, List.map_append]; rfl)) (HE.kill rfl (HE.kill rfl HE.nil))), x5x, rfl⟩
 obtain rfl : i = 3 := by omega
 have htn := c4o n 3
 refine dc 6 (fun K K' => aS ?_ ?_)<;>intro hc10<;>try simp at hc10
 ·have h0 : n.id = 0 := hc10
  refine dv 1 ?_
  skip
  refine dv 4 ?_
  (rw [f1y ⟨fK, fU⟩ h0]; exact a5h rfl rfl (fun _ => rfl) rfl)
 have h0 : ¬ n.id = 0 := hc10
 refine dv 6 ?_
 refine y1y (id := 4) a0x rfl w9w rfl (dv 2 ?_)
 refine a2d v4v (zs := (n.outs).map q5q) rfl rfl a0x rfl w9w rfl rfl rfl (z9z (fun _ => rfl) _) rfl (by (simp only [a0e, r7r, a0c, a0d, a0r, a2y, T141] at *; omega)) (Le.ow_map _ (fun _ => rfl) (fun _ => rfl)) ?_
 refine rlB p0p b1k ?_
 refine y3y (id := 6) r8r rfl p0p rfl rfl rfl rfl rfl rfl ?_
 refine y6y (zs := (a7l n 3).map (w0w true) ++ [[pI (c4n n).kind, pI (c4n n).from', pI (c4n n).to, pI (c4n n).inc, pI (c4n n).version, pI (c4n n).round, pI (c4n n).g, .pv (.slice none 0 0), .pv (.slice none 0 0), .pv (.slice none 0 0), r0r true n.outs]]) rfl rfl r8r rfl p0p rfl rfl rfl rfl rfl rfl (by (simp only [a0e, r7r, a0c, a0d, a0r, a2y, T79] at *; omega)) ?_
 refine dv 1 ?_
 (refine e9t 1 rfl (LeLs.snoc (x' := w0w true (c4n n)) (.same (.same (.same (.same (.same (.same (.same (.le rfl .nil rfl (.le rfl .nil rfl (.le rfl .nil rfl (.same .nil))))))))))) _) ?_; refine b4f 1 (xs' := (a7l n 3 ++ [c4n n]).map (w0w true)) rfl (by rw [List.map_append]; rfl) ?_)
 refine dv 4 ?_
 (rw [f1z ⟨fK, fU⟩ h0]; exact a5h rfl rfl (fun _ => rfl) rfl)
end
section
theorem c6y (W : Tw) (ek en ep ew : Int) (eb : Bool) (hW : c0h W) : MethE Tryz.prog 309 2 [.agg [pI W.time, a5t true W.apps, .ref 0 0, .ref 1 0, pI W.hub.round, w6w true W.hub.ones, w6w true W.hub.twos, w6w true W.hub.outs, r0r true W.sink], .agg [pI ek, pI en, pI ep, pI ew, .pv (.bool eb)]] [(0, (0, .row 65 13 ((W.nodes).map (u2u true)))), (1, (0, .row 79 11 ((W.radio).map (w0w true))))] (ι := Tw × Bool) (fun S' => c0h S'.1 ∧ (S'.2 = false → S'.1.radio = W.radio)) (fun S' => kpB S'.2) (fun S' => .tup [.agg [pI S'.1.time, a5t true S'.1.apps, .ref 0 0, .ref 1 0, pI S'.1.hub.round, w6w true S'.1.hub.ones, w6w true S'.1.hub.twos, w6w true S'.1.hub.outs, r0r true S'.1.sink], .pv (.bool (S'.2))]) (fun S' => [(0, (0, .row 65 13 ((S'.1.nodes).map (u2u true)))), (1, (0, .row 79 11 ((S'.1.radio).map (w0w true))))]) := by
 refine mE (ι := Tw × Bool) Tryz.f309 (fun S' => [.agg [pI S'.1.time, a5t true S'.1.apps, .ref 0 0, .ref 1 0, pI S'.1.hub.round, w6w true S'.1.hub.ones, w6w true S'.1.hub.twos, w6w true S'.1.hub.outs, r0r true S'.1.sink], .pv (.bool (S'.2))]) 2 6 fun γ => ?_
 refine dv 1 ?_
 refine y0y (id := 2) rfl rfl rfl (y0y (id := 3) rfl rfl rfl (x3x (id := 4) b6y c0n rfl (dv 5 fun K K' => ?_)))
 refine x0x rfl rfl rfl (z1z ..) (dc 1 (aI ?_ ?_))<;>intro hc2<;>try simp at hc2
 ·refine dv 5 ?_
  exact ⟨(W, false), ⟨hW, (fun _ => rfl)⟩, [γ 0, γ 1], rfl, rfl, x5x⟩
 have hen : 0 ≤ en ∧ en ≤ 2 := hc2
 obtain ⟨k, rfl⟩ : ∃ k : Nat, en = (k : Int) := ⟨en.toNat, by omega⟩
 obtain ⟨n, hnd, hnI⟩ := b3a hW (i := k) (by omega)
 have hA := hW.1
 have hr40 := hW.2.2.2.1
 refine dv 6 ?_
 refine z0z (j := k) rfl rfl a7t rfl v0v rfl rfl (y8y hnd) ?_
 refine a0g rfl v0v rfl (by assumption) rfl rfl ?_
 refine x3x (id := 5) v0v q0q rfl (dc 8 (fun K K' => aI ?_ ?_))<;>intro o<;>try simp at o
 ·refine dv 2 ?_
  refine x0x rfl rfl rfl (c5u true n) (x3x (id := 6) v0v q0q rfl (dv 7 ?_))
  refine z0z (j := k) rfl rfl a7t rfl v0v rfl rfl (y8y hnd) ?_
  refine v7v (el' := a5e n) rfl rfl v0v rfl rfl rfl hnd rfl (s4s rfl) rfl rfl ?_
  refine dv 10 ?_
  exact ⟨({ W with nodes := W.nodes.set k (a5e n) }, decide ((a5e n).inc > n.inc)), ⟨a6j hW (f6h hnI), (fun _ => rfl)⟩, [γ 0, γ 1], (d5o γ _ gl rfl rfl), rfl, x5x⟩
 refine dc 5 (aI ?_ ?_)<;>intro o<;>try simp at o
 ·refine dv 5 ?_
  exact ⟨(W, false), ⟨hW, (fun _ => rfl)⟩, [γ 0, γ 1], rfl, rfl, x5x⟩
 refine dc 5 (aI ?_ ?_)<;>intro o<;>try simp at o
 ·refine a0i fun B X0 w0 => ?_
  refine txR 5 rfl rfl (dv 5 ?_)
  refine txM [] [] (c5o W.apps n ep hnI hA) rfl rfl rfl rfl fun j hj => ?_
  refine txR 6 rfl rfl (dv 3 ?_)
  refine x3x (id := 7) v0v q0q rfl (dv 2 ?_)
  refine u3u rfl (dv 6 ?_)
  refine z0z (j := k) rfl rfl a7t rfl v0v rfl rfl (y8y hnd) ?_
  refine v7v (el' := j.1) rfl rfl v0v rfl rfl rfl hnd rfl (s4s rfl) rfl rfl ?_
  refine dv 6 ?_
  exact ⟨({ W with nodes := W.nodes.set k j.1 }, j.2), ⟨a6j hW hj, (fun _ => rfl)⟩, [γ 0, γ 1], (d5o γ _ gl rfl rfl), rfl, x5x⟩
 refine dc 5 (aI ?_ ?_)<;>intro o<;>try simp at o
 ·refine dv 4 ?_
  refine x0x rfl rfl rfl (c5v true n) ?_
  refine rlM [1] [_] (a1l W.radio (c4p n) hr40) rfl rfl rfl ?_
  refine dv 7 ?_
  exact ⟨({ W with radio := b2x W.radio (c4p n) }, true), ⟨b5e hW (e8l hnI.1), (fun h => by cases h)⟩, [γ 0, _], rfl, rfl, x5x⟩
 refine dv 7 ?_
 refine x0x rfl rfl rfl (c5t true n) ?_
 refine z0z (j := k) rfl rfl a7t rfl v0v rfl rfl (y8y hnd) ?_
 refine v7v (el' := a8i n) rfl rfl v0v rfl rfl rfl hnd rfl (s4s rfl) rfl rfl ?_
 refine dc 5 (fun K K' => aS ?_ ?_)<;>intro o<;>try simp at o
 ·refine dv 1 ?_
  skip
  refine dv 5 ?_
  exact ⟨({ W with nodes := W.nodes.set k (a8i n) }, true), ⟨a6j hW (f0i hnI), (fun h => by cases h)⟩, [γ 0, γ 1], rfl, rfl, x5x⟩
 obtain rfl : k = 0 := by omega
 refine dv 1 ?_
 refine rlB a7g b6z ?_
 refine dv 1 ?_
 refine a1j rfl rfl a7g rfl rfl rfl rfl (s0s rfl) rfl ?_
 refine dv 0 ?_
 refine e2b 2 rfl (.same (.same (.same (.same (.same (.le (b := w6w true ([] : List Wo)) rfl .nil rfl (.le (b := w6w true ([] : List Wo)) rfl .nil rfl (.le (b := w6w true ([] : List Wo)) rfl .nil rfl (LeCs.refl _))))))))) ?_
 refine dv 5 ?_
 exact ⟨({ W with nodes := W.nodes.set 0 (a8i n), hub := hb0 }, true), ⟨d3p (a6j hW (f0i hnI)) e4s, (fun h => by cases h)⟩, [γ 0, γ 1], rfl, rfl, x5x⟩
end
end Go.Proofs.YtlgknoapdbpojaaGreat.Am
