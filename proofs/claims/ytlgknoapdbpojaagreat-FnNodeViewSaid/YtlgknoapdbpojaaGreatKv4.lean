/- Part 4 of the texts that the proof of LawFnNodeView leans on, merged by program. -/
import Derived.Test.YtlgknoapdbpojaaGreatKv3
set_option linter.unusedVariables false
set_option linter.unusedSimpArgs false
set_option maxHeartbeats 4000000
set_option autoImplicit true
set_option relaxedAutoImplicit true
namespace Go.Proofs.YtlgknoapdbpojaaGreat.Am
open Go Go.RowKit
section
variable {P : Program} {ev : Operand → Option AV}
section
variable {tt : TT} {ops : Array Oper} {r : List Oper} {fr : Fr} {h : Hp} {lg : Log} {K : Fr → Hp → Log → Prop} {d : Nat} {ty : TypeId} {pos : String} {af : Array Edge}
end
theorem f3z {n : Nat} {fr : Fr} {h : Hp} {Q : Exit → Fr → Hp → Prop} {c : Code} (id : Nat) {g : Nat} {e : Ent} (hh : y4y h id = some (g, e)) (k : Ex P n c fr ((id, (g, .dead)) :: h) Q) : Ex P n c fr h Q := by
 refine e0x (Cov.refl fr) ⟨fun i ge hg => ?_, fun i hn => ?_⟩ k
 ·rw [v1v] at hg
  split at hg
  ·rename_i q; subst q; cases hg; exact ⟨_, hh, .inr rfl⟩
  ·exact ⟨ge.2, hg, .inl rfl⟩
 ·rw [v1v] at hn
  split at hn
  ·cases hn
  ·exact hn
theorem Grew.alloc (w : World) (o : Obj) : Grew w (w.alloc o) [] := ⟨rfl, rfl, rfl, by show w.heap.size ≤ (w.heap.push o).size; rw [Array.size_push]; omega, fun b hb _ => by show (w.heap.push o)[b]? = _; rw [Array.getElem?_push, if_neg (Nat.ne_of_lt hb)]⟩
end
section
variable {P : Program} {tt : TT} {ops : Array Oper} {r : List Oper} {fr : Fr} {h : Hp} {lg : Log} {K : Fr → Hp → Log → Prop} {d : Nat} {ty : TypeId} {pos : String} {af : Array Edge}
variable {t e id g id2 g2 ty2 : Nat} {x y : Operand} {S E : TS}

theorem e9c (htt : a2s P tt) {xs ys zs zs' : List (List AV)} (hx : evO fr x = some (.ref id g)) (hy : evO fr y = some (.ref id2 g2)) (hs : tt t = some S) (hk : S.kind = .sl e) (he : tt e = some E) (h2 : Nat.ble 1 E.size = true) (h3 : Nat.ble 1 E.bytes = true) (hh : y4y h id = some (g, .row e E.size xs)) (hh2 : y4y h id2 = some (g2, .row ty2 E.size ys))
  (how : (ys.flatten.all fun c => !c.isOw) = true) (hz : xs ++ ys = zs) (h4 : zs.length * E.bytes ≤ 140737488355328) (hle : Le true (.row .ow e E.size zs) (.row (.rd true) e E.size zs')) (k : v2v P tt ops r ((d, .row (.rd true) e E.size zs') :: fr) ((id, (g + 1, .dead)) :: h) (([id, id2], [id]) :: lg) K) :
  v2v P tt ops (⟨some d, .call { callee := .builtin .append, args := #[x, y], argTypes := #[t, t] }, ty, pos, af, none⟩ :: r) fr h lg K := by
 subst hz
 exact a5m (OpS.frz (b5l (T := [(id2, (g2, .row ty2 E.size ys))]) htt (h := h) rfl hs hk he hx hy (.inl (e1m hh2)) how (Nat.le_of_ble_eq_true h2) (Nat.le_of_ble_eq_true h3) (by rw [← List.length_append]; exact h4)) hle) (InH.cons hh (InH.one hh2)) Sub.one' k

theorem e9d (htt : a2s P tt) {α : Type} {f : α → List AV} {l l2 l' : List α} {id g id2 g2 ty2 lo hi : Nat} (hx : evO fr x = some (.ref id g)) (hy : evO fr y = some (.cut id2 g2 lo hi)) (hs : tt t = some S) (hk : S.kind = .sl e) (he : tt e = some E) (h2 : Nat.ble 1 E.size = true) (h3 : Nat.ble 1 E.bytes = true) (hh : y4y h id = some (g, .row e E.size (l.map f))) (hh2 : y4y h id2 = some (g2, .row ty2 E.size (l2.map f)))
  (hf : ∀ a, ((f a).all AV.cl) = true) (how : ((((l2.take hi).drop lo).map f).flatten.all fun c => !c.isOw) = true) (hz : l ++ (l2.take hi).drop lo = l') (h4 : l'.length * E.bytes ≤ 140737488355328) (k : v2v P tt ops r ((d, .row (.rd true) e E.size (l'.map f)) :: fr) ((id, (g + 1, .dead)) :: h) (([id, id2], [id]) :: lg) K) :
  v2v P tt ops (⟨some d, .call { callee := .builtin .append, args := #[x, y], argTypes := #[t, t] }, ty, pos, af, none⟩ :: r) fr h lg K := by
 subst hz
 have hm : l.map f ++ ((l2.map f).take hi).drop lo = (l ++ (l2.take hi).drop lo).map f := by rw [← List.map_take, ← List.map_drop, ← List.map_append]
 refine a5m (OpS.frz (b5l (T := [(id2, (g2, .row ty2 E.size (l2.map f)))]) htt (h := h) rfl hs hk he hx hy (.inl (e4n hh2)) (by rw [← List.map_take, ← List.map_drop]; exact how) (Nat.le_of_ble_eq_true h2) (Nat.le_of_ble_eq_true h3) (by rw [← List.length_append, hm, List.length_map]; exact h4)) (by rw [hm]; exact Le.ow_map _ (fun _ => rfl) hf)) (InH.cons hh (InH.one hh2)) Sub.one' k
end
section
theorem a5r (r : Int) : a0t Tryz.prog 301 [.pv (.int .i64 r)] (.pv (.bool (decide (0 ≤ r ∧ r ≤ 1)))) := by
 refine pX Tryz.f301 [.pv (.bool (decide (0 ≤ r ∧ r ≤ 1)))] 0 ?_
 refine dv 4 ?_
 refine x0x rfl rfl rfl (z1z r 0 1) (dv 2 ?_)
 exact x2x rfl rfl rfl
theorem d0l (o : Op_) : a0t Tryz.prog 270 [.agg (b4u o)] (.pv (.bool (decide (b2v o)))) := by
 refine pX Tryz.f270 [.pv (.bool (decide (b2v o)))] 1 ?_
 refine dv 1 ?_
 refine y0y (id := 0) rfl rfl rfl (v0v rfl (a1r fun K K' => ?_))
 refine exR (u7u rfl a1u rfl rfl s3s rfl rfl (y8y rfl s3s rfl rfl (a5e ?_)))
 refine p9p (ι := Bool) (fun b γ1 => [(5, .pv (.bool (b)))]) (fun b γ1 => []) (fun b => b = decide (o.do' = 1 ∨ o.do' = 3)) (q6q [1, 4] rfl) (u8u 0 rfl HE.nil) ?_ fun b γ1 hi => ?_
 ·refine exR (b1p rfl rfl rfl (v0v rfl (a0l rfl ?_ ?_)))<;>intro h<;>try simp at h
  ·refine b0p ?_
   repeat clear K' K
   exact ⟨_, (by (simp_all; done)), [], (x7x 5 rfl Cov.nil), (x7x 1 rfl (x7x 4 rfl Cov.nil)), HE.nil, (u8u 0 rfl HE.nil), rfl⟩
  refine a0w v3v (by rfl) (b1p rfl rfl rfl (v0v rfl ?_))
  exact ⟨_, (by (show (_ : Bool) = _; rw [Bool.eq_iff_iff]; simp; omega)), [], (x7x 5 rfl Cov.nil), (x7x 1 rfl (x7x 4 rfl Cov.nil)), HE.nil, (u8u 0 rfl HE.nil), rfl⟩
 ·try dsimp only [b1e, b1f]
  subst hi
  refine dc 0 (aI ?_ ?_)<;>intro h<;>try simp at h
  ·refine dv 3 ?_
   refine x0x rfl rfl rfl (a5r ..) (dc 1 (aS ?_ ?_))<;>intro h<;>try simp at h
   ·refine dv 15 ?_
    refine x2x rfl ?_ rfl
    exact congrArg (fun b : Bool => [AV.pv (.bool b)]) ((decide_eq_false (by simp only [b2v, a3t, b6l]; omega)).symm)
   refine dv 2 ?_
   refine x0x rfl rfl rfl (a5q ..) (dc 2 (aS ?_ ?_))<;>intro h<;>try simp at h
   ·refine dv 10 ?_
    refine x2x rfl ?_ rfl
    exact congrArg (fun b : Bool => [AV.pv (.bool b)]) ((decide_eq_false (by simp only [b2v, a3t, b6l]; omega)).symm)
   refine dc 5 (aS ?_ ?_)<;>intro h<;>try simp at h
   ·refine dv 5 ?_
    refine x2x rfl ?_ rfl
    exact congrArg (fun b : Bool => [AV.pv (.bool b)]) ((decide_eq_false (by simp only [b2v, a3t, b6l]; omega)).symm)
   refine dv 6 ?_
   refine x2x rfl ?_ rfl
   exact congrArg (fun b : Bool => [AV.pv (.bool b)]) (decide_eq_decide.2 (by simp only [b2v, a3t, b6l]; omega))
  refine dc 3 (aI ?_ ?_)<;>intro h<;>try simp at h
  ·refine dv 3 ?_
   refine x0x rfl rfl rfl (a5r ..) (dc 1 (aS ?_ ?_))<;>intro h<;>try simp at h
   ·refine dv 15 ?_
    refine x2x rfl ?_ rfl
    exact congrArg (fun b : Bool => [AV.pv (.bool b)]) ((decide_eq_false (by simp only [b2v, a3t, b6l]; omega)).symm)
   refine dv 2 ?_
   refine x0x rfl rfl rfl (a5r ..) (dc 2 (aS ?_ ?_))<;>intro h<;>try simp at h
   ·refine dv 10 ?_
    refine x2x rfl ?_ rfl
    exact congrArg (fun b : Bool => [AV.pv (.bool b)]) ((decide_eq_false (by simp only [b2v, a3t, b6l]; omega)).symm)
   refine dc 5 (aS ?_ ?_)<;>intro h<;>try simp at h
   ·refine dv 5 ?_
    refine x2x rfl ?_ rfl
    exact congrArg (fun b : Bool => [AV.pv (.bool b)]) ((decide_eq_false (by simp only [b2v, a3t, b6l]; omega)).symm)
   refine u7u rfl a1u rfl rfl s3s rfl rfl (b4d rfl rfl (y8y rfl s3s rfl rfl (b4d rfl rfl (b1p rfl rfl rfl (c2m rfl rfl (v0v rfl (a9b ⟨.inr rfl, ?_⟩)))))))
   refine x2x rfl ?_ rfl
   exact congrArg (fun b : Bool => [AV.pv (.bool b)]) (decide_eq_decide.2 (by simp only [b2v, a3t, b6l]; omega))
  refine p9p (ι := Bool) (fun b γ2 => [(46, .pv (.bool (b)))]) (fun b γ2 => []) (fun b => b = decide (o.do' = 4 ∨ o.do' = 7)) (q6q [1, 4] rfl) (u8u 0 rfl HE.nil) ?_ fun b γ2 hi => ?_
  ·refine exR (b1p rfl rfl rfl (v0v rfl (a0l rfl ?_ ?_)))<;>intro h<;>try simp at h
   ·refine b0p ?_
    repeat clear K' K
    exact ⟨_, (by (simp_all; done)), [], (x7x 46 rfl Cov.nil), (x7x 1 rfl (x7x 4 rfl Cov.nil)), HE.nil, (u8u 0 rfl HE.nil), rfl⟩
   refine a0w v3v (by rfl) (b1p rfl rfl rfl (v0v rfl ?_))
   exact ⟨_, (by (show (_ : Bool) = _; rw [Bool.eq_iff_iff]; simp; omega)), [], (x7x 46 rfl Cov.nil), (x7x 1 rfl (x7x 4 rfl Cov.nil)), HE.nil, (u8u 0 rfl HE.nil), rfl⟩
  ·try dsimp only [b1e, b1f]
   subst hi
   refine dc 0 (aI ?_ ?_)<;>intro h<;>try simp at h
   ·refine dv 3 ?_
    refine x0x rfl rfl rfl (a5r ..) (dc 1 (aS ?_ ?_))<;>intro h<;>try simp at h
    ·refine dv 15 ?_
     refine x2x rfl ?_ rfl
     exact congrArg (fun b : Bool => [AV.pv (.bool b)]) ((decide_eq_false (by simp only [b2v, a3t, b6l]; omega)).symm)
    refine dc 5 (aS ?_ ?_)<;>intro h<;>try simp at h
    ·refine dv 10 ?_
     refine x2x rfl ?_ rfl
     exact congrArg (fun b : Bool => [AV.pv (.bool b)]) ((decide_eq_false (by simp only [b2v, a3t, b6l]; omega)).symm)
    refine dc 5 (aS ?_ ?_)<;>intro h<;>try simp at h
    ·refine dv 5 ?_
     refine x2x rfl ?_ rfl
     exact congrArg (fun b : Bool => [AV.pv (.bool b)]) ((decide_eq_false (by simp only [b2v, a3t, b6l]; omega)).symm)
    refine dv 6 ?_
    refine x2x rfl ?_ rfl
    exact congrArg (fun b : Bool => [AV.pv (.bool b)]) (decide_eq_decide.2 (by simp only [b2v, a3t, b6l]; omega))
   refine dc 3 (aI ?_ ?_)<;>intro h<;>try simp at h
   ·refine dv 3 ?_
    refine x0x rfl rfl rfl (a5r ..) (dc 1 (aS ?_ ?_))<;>intro h<;>try simp at h
    ·refine dv 15 ?_
     refine x2x rfl ?_ rfl
     exact congrArg (fun b : Bool => [AV.pv (.bool b)]) ((decide_eq_false (by simp only [b2v, a3t, b6l]; omega)).symm)
    refine dv 2 ?_
    refine x0x rfl rfl rfl (a5q ..) (dc 2 (aS ?_ ?_))<;>intro h<;>try simp at h
    ·refine dv 10 ?_
     refine x2x rfl ?_ rfl
     exact congrArg (fun b : Bool => [AV.pv (.bool b)]) ((decide_eq_false (by simp only [b2v, a3t, b6l]; omega)).symm)
    refine dv 2 ?_
    refine x0x rfl rfl rfl (z1z ..) (dc 2 (aS ?_ ?_))<;>intro h<;>try simp at h
    ·refine dv 5 ?_
     refine x2x rfl ?_ rfl
     exact congrArg (fun b : Bool => [AV.pv (.bool b)]) ((decide_eq_false (by simp only [b2v, a3t, b6l]; omega)).symm)
    refine dv 6 ?_
    refine x2x rfl ?_ rfl
    exact congrArg (fun b : Bool => [AV.pv (.bool b)]) (decide_eq_decide.2 (by simp only [b2v, a3t, b6l]; omega))
   refine dc 3 (aS ?_ ?_)<;>intro h<;>try simp at h
   ·refine dv 4 ?_
    refine x2x rfl ?_ rfl
    exact congrArg (fun b : Bool => [AV.pv (.bool b)]) ((decide_eq_false (by simp only [b2v, a3t, b6l]; omega)).symm)
   refine dv 3 ?_
   refine x0x rfl rfl rfl (a4i ..) (dc 1 (aS ?_ ?_))<;>intro h<;>try simp at h
   ·refine dv 15 ?_
    refine x2x rfl ?_ rfl
    exact congrArg (fun b : Bool => [AV.pv (.bool b)]) ((decide_eq_false (by simp only [b2v, a3t, b6l]; omega)).symm)
   refine dv 2 ?_
   refine x0x rfl rfl rfl (z1z ..) (dc 2 (aS ?_ ?_))<;>intro h<;>try simp at h
   ·refine dv 10 ?_
    refine x2x rfl ?_ rfl
    exact congrArg (fun b : Bool => [AV.pv (.bool b)]) ((decide_eq_false (by simp only [b2v, a3t, b6l]; omega)).symm)
   refine dv 2 ?_
   refine x0x rfl rfl rfl (z1z ..) (dc 2 (aS ?_ ?_))<;>intro h<;>try simp at h
   ·refine dv 5 ?_
    refine x2x rfl ?_ rfl
    exact congrArg (fun b : Bool => [AV.pv (.bool b)]) ((decide_eq_false (by simp only [b2v, a3t, b6l]; omega)).symm)
   refine dv 2 ?_
   refine x0x rfl rfl rfl (a5r ..) (dv 3 ?_)
   refine x2x rfl ?_ rfl
   exact congrArg (fun b : Bool => [AV.pv (.bool b)]) (decide_eq_decide.2 (by simp only [b2v, a3t, b6l]; omega))
theorem b5d (c : Bool) (r : Ru) (hl : r.ops.length ≤ 1048576) : a0t Tryz.prog 203 [.agg (d0e c r)] (.pv (.bool (kb (d0z r)))) := by
 refine pX Tryz.f203 [.pv (.bool (kb (d0z r)))] 1 ?_
 refine dv 1 ?_
 refine y0y (id := 0) rfl rfl rfl (dv 9 fun K K' => ?_)
 refine x4x (ι := Nat) (fun i γ1 => [(3, pI (c8g (r.ops.take i) : Int)), (4, pI (d9t (r.ops.take i) : Int)), (5, pI (i : Int))]) (fun i γ1 => []) (fun i => i ≤ r.ops.length ∧ ∀ (j : Nat) o, j < i → r.ops[j]? = some o → b2v o) (fun i => r.ops.length - i) (x7x 1 rfl Cov.nil) (u8u 0 rfl HE.nil) 0 ⟨by omega, fun j o hj => by omega⟩ [] (Cov.cons' (t := 3) rfl (by rfl) (Cov.cons' (t := 4) rfl (by rfl) (x7x 5 rfl Cov.nil))) x5x rfl fun i γ1 hi => ?_
 obtain ⟨k1, k2⟩ := hi
 refine dc 7 (fun K K' => aS ?_ ?_)<;>intro h<;>try simp at h
 ·obtain rfl : i = r.ops.length := by omega
  rw [List.take_length]
  have hall : ∀ o ∈ r.ops, b2v o := fun o ho => by obtain ⟨j, hj⟩ := List.getElem?_of_mem ho; exact k2 j o (List.getElem?_eq_some_iff.1 hj).1 hj
  refine dc 7 (aS ?_ ?_)<;>intro h<;>try simp at h
  ·refine dv 8 ?_
   refine x2x rfl ?_ rfl
   exact congrArg (fun b : Bool => [AV.pv (.bool b)]) (a4g fun q => by have := q.2; omega)
  refine dc 4 (aS ?_ ?_)<;>intro h<;>try simp at h
  ·refine dv 4 ?_
   refine x2x rfl ?_ rfl
   exact congrArg (fun b : Bool => [AV.pv (.bool b)]) (a4g fun q => by have := q.2; omega)
  refine dv 5 ?_
  refine x2x rfl ?_ rfl
  exact congrArg (fun b : Bool => [AV.pv (.bool b)]) (e7n (by rw [decide_eq_true_iff]; exact ⟨fun q => ⟨hall, by omega, by omega, by omega⟩, fun q => by have := q.2; omega⟩))
 obtain ⟨o, ho⟩ := gE r.ops i
 have hs6 := d5i r.ops i
 have hs7 := d9u r.ops i
 refine dv 10 fun K K' K K' => ?_
 refine x0x rfl rfl rfl (d0l ..) (dc 1 (aI ?_ ?_))<;>intro hc6<;>try simp at hc6
 ·have fX : ¬ d0z r := fun q => by have := q.1 o (List.mem_of_getElem? ho); simp_all
  refine dv 3 ?_
  refine x2x rfl ?_ rfl
  exact congrArg (fun b : Bool => [AV.pv (.bool b)]) (a4g fX)
 have hoo : b2v o := by simpa using hc6
 refine dc 10 (fun K K' => aS ?_ ?_)<;>intro hc8<;>try simp at hc8
 ·have h6 : ¬ o.do' = 6 := hc8
  refine dc 9 (aS ?_ ?_)<;>intro hc10<;>try simp at hc10
  ·have h7 : ¬ o.do' = 7 := hc10
   refine dv 3 ?_
   refine x8x (b := 1) rfl rfl (by omega) (dv 1 ?_)
   exact ⟨i + 1, ⟨⟨by omega, fun j q hj hq => by by_cases e : j = i; (subst e; rw [ho] at hq; cases hq; exact hoo); exact k2 j q (by omega) hq⟩, by omega⟩, [], (Cov.cons' (t := 3) rfl (by rw [z6z ho, b2w]; (rw [if_neg h6]; rfl)) (Cov.cons' (t := 4) rfl (by rw [z6z ho, b5u]; (rw [if_neg h7]; rfl)) (x7x 5 rfl Cov.nil))), x6x, x5x, x5x, rfl⟩
  have h7 : o.do' = 7 := hc10
  refine dv 2 ?_
  refine x8x (b := 1) rfl rfl (by omega) (dv 3 ?_)
  refine x8x (b := 1) rfl rfl (by omega) (dv 1 ?_)
  exact ⟨i + 1, ⟨⟨by omega, fun j q hj hq => by by_cases e : j = i; (subst e; rw [ho] at hq; cases hq; exact hoo); exact k2 j q (by omega) hq⟩, by omega⟩, [], (Cov.cons' (t := 3) rfl (by rw [z6z ho, b2w]; (rw [if_neg h6]; rfl)) (Cov.cons' (t := 4) rfl (by rw [z6z ho, b5u]; (rw [if_pos h7]; done)) (x7x 5 rfl Cov.nil))), x6x, x5x, x5x, rfl⟩
 have h6 : o.do' = 6 := hc8
 refine dv 2 ?_
 refine x8x (b := 1) rfl rfl (by omega) (dc 9 (aS ?_ ?_))<;>intro hc9<;>try simp at hc9
 ·have h7 : ¬ o.do' = 7 := hc9
  refine dv 3 ?_
  refine x8x (b := 1) rfl rfl (by omega) (dv 1 ?_)
  exact ⟨i + 1, ⟨⟨by omega, fun j q hj hq => by by_cases e : j = i; (subst e; rw [ho] at hq; cases hq; exact hoo); exact k2 j q (by omega) hq⟩, by omega⟩, [], (Cov.cons' (t := 3) rfl (by rw [z6z ho, b2w]; (rw [if_pos h6]; done)) (Cov.cons' (t := 4) rfl (by rw [z6z ho, b5u]; (rw [if_neg h7]; rfl)) (x7x 5 rfl Cov.nil))), x6x, x5x, x5x, rfl⟩
 have h7 : o.do' = 7 := hc9
 refine dv 2 ?_
 refine x8x (b := 1) rfl rfl (by omega) (dv 3 ?_)
 refine x8x (b := 1) rfl rfl (by omega) (dv 1 ?_)
 exact ⟨i + 1, ⟨⟨by omega, fun j q hj hq => by by_cases e : j = i; (subst e; rw [ho] at hq; cases hq; exact hoo); exact k2 j q (by omega) hq⟩, by omega⟩, [], (Cov.cons' (t := 3) rfl (by rw [z6z ho, b2w]; (rw [if_pos h6]; done)) (Cov.cons' (t := 4) rfl (by rw [z6z ho, b5u]; (rw [if_pos h7]; done)) (x7x 5 rfl Cov.nil))), x6x, x5x, x5x, rfl⟩
theorem b0j (c : Bool) (l : List Ap) (hb : ∀ a ∈ l, ∀ r ∈ a.rules, r.ops.length ≤ 1048576) : a0t Tryz.prog 87 [a5u c l] (.pv (.bool (kb (a7n l)))) := by
 refine pX Tryz.f87 [.pv (.bool (kb (a7n l)))] 0 ?_
 refine dc 7 (fun K K' => aI ?_ ?_)<;>intro h<;>try simp at h
 ·have fX : ¬ a7n l := fun q => by have := q.1; omega
  refine dv 3 ?_
  refine x2x rfl ?_ rfl
  exact congrArg (fun b : Bool => [AV.pv (.bool b)]) (a4g fX)
 have h4 : l.length = 4 := by omega
 refine dv 5 fun K K' => ?_
 refine x4x (ι := Nat) (fun i γ1 => [(3, pI (i : Int))]) (fun i γ1 => []) (fun i => i ≤ l.length ∧ ∀ (j : Nat) a, j < i → l[j]? = some a → e4q a) (fun i => l.length - i) (x7x 0 rfl Cov.nil) HE.nil 0 ⟨by omega, fun j a hj => by omega⟩ [] x6x x5x rfl fun i γ1 hi => ?_
 obtain ⟨k1, k2⟩ := hi
 refine dc 6 (fun K K' => aS ?_ ?_)<;>intro h<;>try simp at h
 ·obtain rfl : i = l.length := by omega
  have hT : a7n l := ⟨h4, fun a ha => by obtain ⟨j, hj⟩ := List.getElem?_of_mem ha; exact k2 j a (List.getElem?_eq_some_iff.1 hj).1 hj⟩
  refine dv 4 ?_
  refine x2x rfl ?_ rfl
  exact congrArg (fun b : Bool => [AV.pv (.bool b)]) (e2y hT)
 obtain ⟨a, ha⟩ := gE l i
 refine dc 15 (fun K K' K K' => aI ?_ ?_)<;>intro h<;>try simp at h
 ·have fX : ¬ a7n l := fun q => by have := (q.2 a (List.mem_of_getElem? ha)).1; omega
  refine dv 3 ?_
  refine x2x rfl ?_ rfl
  exact congrArg (fun b : Bool => [AV.pv (.bool b)]) (a4g fX)
 have h5 : a.rules.length ≤ 4 := by omega
 refine dv 4 ?_
 refine x4x (ι := Nat) (fun k γ2 => [(5, pI (k : Int))]) (fun k γ2 => []) (fun k => k ≤ a.rules.length ∧ c9p a.rules (fun j r => (0 ≤ r.kind ∧ r.kind ≤ 3) ∧ d0z r ∧ ∀ p, 0 < j → a.rules[j - 1]? = some p → p.kind < r.kind) k) (fun k => a.rules.length - k) (q6q [0, 3, 4] rfl) HE.nil 0 ⟨by omega, a1p⟩ [] x6x x5x rfl fun k γ2 hi => ?_
 obtain ⟨k3, k4⟩ := hi
 refine dc 6 (fun K K' => aS ?_ ?_)<;>intro h<;>try simp at h
 ·obtain rfl : k = a.rules.length := by omega
  have hap : e4q a := ⟨h5, fun j r hj => a3d k4 (Nat.le_refl _) j r hj⟩
  refine dv 3 ?_
  refine x8x (b := 1) rfl rfl (by omega) (dv 1 ?_)
  exact ⟨i + 1, ⟨⟨by omega, fun j q hj hq => by by_cases e : j = i; (subst e; rw [ha] at hq; cases hq; exact hap); exact k2 j q (by omega) hq⟩, by omega⟩, [], x6x, x6x, x5x, x5x, rfl⟩
 obtain ⟨r, hr⟩ := gE a.rules k
 refine dv 9 fun K K' => ?_
 refine x0x rfl rfl rfl (z1z ..) (dc 2 (aS ?_ ?_))<;>intro h<;>try simp at h
 ·have fR : ¬ ((0 ≤ r.kind ∧ r.kind ≤ 3) ∧ d0z r ∧ ∀ p, 0 < k → a.rules[k - 1]? = some p → p.kind < r.kind) := by (rintro ⟨q1, q2, q3⟩; omega)
  refine dv 25 ?_
  have fX : ¬ a7n l := fun q => fR ((q.2 a (List.mem_of_getElem? ha)).2 k r hr)
  refine dv 3 ?_
  refine x2x rfl ?_ rfl
  exact congrArg (fun b : Bool => [AV.pv (.bool b)]) (a4g fX)
 refine dv 4 ?_
 refine x0x rfl rfl rfl (b5d c r (hb a (List.mem_of_getElem? ha) r (List.mem_of_getElem? hr))) ?_
 refine dc 3 (aS ?_ ?_)<;>intro hg13<;>try simp at hg13
 ·have hnr : ¬ d0z r := a1h (by simpa using hg13)
  have fR : ¬ ((0 ≤ r.kind ∧ r.kind ≤ 3) ∧ d0z r ∧ ∀ p, 0 < k → a.rules[k - 1]? = some p → p.kind < r.kind) := by (rintro ⟨q1, q2, q3⟩; exact absurd q2 hnr)
  refine dv 17 ?_
  have fX : ¬ a7n l := fun q => fR ((q.2 a (List.mem_of_getElem? ha)).2 k r hr)
  refine dv 3 ?_
  refine x2x rfl ?_ rfl
  exact congrArg (fun b : Bool => [AV.pv (.bool b)]) (a4g fX)
 have hru : d0z r := a1d.1 (by simpa using hg13)
 refine dc 3 (aS ?_ ?_)<;>intro h<;>try simp at h
 ·have hR : ((0 ≤ r.kind ∧ r.kind ≤ 3) ∧ d0z r ∧ ∀ p, 0 < k → a.rules[k - 1]? = some p → p.kind < r.kind) := ⟨by omega, hru, fun p h0 => by omega⟩
  refine dv 17 ?_
  refine x8x (b := 1) rfl rfl (by omega) (dv 1 ?_)
  exact ⟨k + 1, ⟨⟨by omega, s6s k4 hr hR⟩, by omega⟩, [], x6x, x6x, x5x, x5x, rfl⟩
 have k0 : 0 < k := by omega
 obtain ⟨p, hp⟩ := gE a.rules (k - 1)
 refine dv 2 ?_
 refine p6p (b := 1) rfl rfl (by omega) (by omega) (dc 11 (aS ?_ ?_))<;>intro h<;>try simp at h
 ·have hR : ((0 ≤ r.kind ∧ r.kind ≤ 3) ∧ d0z r ∧ ∀ p, 0 < k → a.rules[k - 1]? = some p → p.kind < r.kind) := by exact ⟨by omega, hru, fun p2 h0 hp2 => by rw [hp] at hp2; cases hp2; omega⟩
  refine dv 3 ?_
  refine x8x (b := 1) rfl rfl (by omega) (dv 1 ?_)
  exact ⟨k + 1, ⟨⟨by omega, s6s k4 hr hR⟩, by omega⟩, [], x6x, x6x, x5x, x5x, rfl⟩
 have fR : ¬ ((0 ≤ r.kind ∧ r.kind ≤ 3) ∧ d0z r ∧ ∀ p, 0 < k → a.rules[k - 1]? = some p → p.kind < r.kind) := by (rintro ⟨q1, q2, q3⟩; (have := q3 p (by omega) hp; omega))
 have fX : ¬ a7n l := fun q => fR ((q.2 a (List.mem_of_getElem? ha)).2 k r hr)
 refine dv 3 ?_
 refine x2x rfl ?_ rfl
 exact congrArg (fun b : Bool => [AV.pv (.bool b)]) (a4g fX)
end
section
theorem a1x (S : Rn) (e : Ev) (r : Int) : Meth Tryz.prog 338 3 [0, 1, 2] [.ptr 0 0 0, .pv (.int .i64 r)] [(0, (0, .box 362 [pI S.s.x, pI S.s.y, pI S.s.count, pI e.time, pI e.to, pI e.from', pI e.count, pI e.n, pI e.kind, pI e.arg, .ref 1 0, .ref 2 0])), (1, (0, .row 56 7 ((S.sends).map y9y))), (2, (0, .row 141 5 ((S.outs).map q8q)))] (.pv (.int .i64 (if r = 0 then S.s.x else S.s.y))) [] := by
 refine mX Tryz.f338 [.pv (.int .i64 (if r = 0 then S.s.x else S.s.y))] 3 0 fun γ => ?_
 refine dc 6 (fun K K' => aI ?_ ?_)<;>intro hc2<;>try simp at hc2
 ·have k : r = 0 := hc2
  refine dv 8 ?_
  exact ⟨[γ 0, γ 1, γ 2], rfl, congrArg (fun v : Int => some [AV.pv (.int .i64 v)]) (if_pos k).symm, x5x⟩
 have k : ¬ r = 0 := hc2
 refine dv 9 ?_
 exact ⟨[γ 0, γ 1, γ 2], rfl, congrArg (fun v : Int => some [AV.pv (.int .i64 v)]) (if_neg k).symm, x5x⟩
theorem a5h (S : Rn) (e : Ev) (r n : Int) : Meth Tryz.prog 337 3 [0, 1, 2] [.ptr 0 0 0, .pv (.int .i64 r), .pv (.int .i64 n)] [(0, (0, .box 362 [pI S.s.x, pI S.s.y, pI S.s.count, pI e.time, pI e.to, pI e.from', pI e.count, pI e.n, pI e.kind, pI e.arg, .ref 1 0, .ref 2 0])), (1, (0, .row 56 7 ((S.sends).map y9y))), (2, (0, .row 141 5 ((S.outs).map q8q)))] (.tup []) [(0, (0, .box 362 [pI (f6r S.s r n).x, pI (f6r S.s r n).y, pI (f6r S.s r n).count, pI e.time, pI e.to, pI e.from', pI e.count, pI e.n, pI e.kind, pI e.arg, .ref 1 0, .ref 2 0]))] := by
 refine mX Tryz.f337 [] 3 0 fun γ => ?_
 refine dc 3 (aI ?_ ?_)<;>intro hc1<;>try simp at hc1
 ·have k : r = 0 := hc1
  refine dv 3 ?_
  refine z8z rfl rfl rfl (dv 4 ?_)
  exact ⟨[γ 0, γ 1, γ 2], rfl, rfl, HE.box rfl (by unfold f6r; rw [if_pos k]; rfl) (HE.same rfl (HE.same rfl HE.nil))⟩
 have k : ¬ r = 0 := hc1
 refine dv 3 ?_
 refine z8z rfl rfl rfl (dv 4 ?_)
 exact ⟨[γ 0, γ 1, γ 2], rfl, rfl, HE.box rfl (by unfold f6r; rw [if_neg k]; rfl) (HE.same rfl (HE.same rfl HE.nil))⟩
theorem c5k (S : Rn) (e : Ev) (o : Op_) (ho : b2v o) (hs : S.sends.length ≤ 1000) (hu : S.outs.length ≤ 1000) : MethE Tryz.prog 336 3 [.ptr 0 0 0, .agg (b4u o)] [(0, (0, .box 362 [pI S.s.x, pI S.s.y, pI S.s.count, pI e.time, pI e.to, pI e.from', pI e.count, pI e.n, pI e.kind, pI e.arg, .ref 1 0, .ref 2 0])), (1, (0, .row 56 7 ((S.sends).map y9y))), (2, (0, .row 141 5 ((S.outs).map q8q)))] (ι := Rn × Int) (fun S' => S'.1.sends.length ≤ S.sends.length + 1 ∧ S'.1.outs.length ≤ S.outs.length + 1 ∧ (∀ q ∈ S'.1.outs, q ∈ S.outs ∨ q.time = e.time) ∧ 0 ≤ S'.2 ∧ S'.2 ≤ 8) (fun S' => [0]) (fun S' => .pv (.int .i64 S'.2)) (fun S' => [(0, (0, .box 362 [pI S'.1.s.x, pI S'.1.s.y, pI S'.1.s.count, pI e.time, pI e.to, pI e.from', pI e.count, pI e.n, pI e.kind, pI e.arg, .ref 1 0, .ref 2 0])), (1, (0, .row 56 7 ((S'.1.sends).map y9y))), (2, (0, .row 141 5 ((S'.1.outs).map q8q)))]) := by
 refine b7f v3v (fn := Tryz.f336) (by kernel_rfl) (by kernel_rfl) rfl (ι := Rn × Int) (OF := fun S' => [.pv (.int .i64 S'.2)]) 3 5 (s0s rfl) (by rfl) (fun _ _ => by rfl) (by repeat (first | exact BndH.nil | refine BndH.box rfl ?_ | refine BndH.row (w2w fun _ => rfl) ?_)) (fun _ _ => (by repeat (first | exact BndH.nil | refine BndH.box rfl ?_ | refine BndH.row (w2w fun _ => rfl) ?_))) (fun _ _ => by rfl) fun γ => ?_
 show Ex Tryz.prog _ _ [(0, .ptr 0 (γ 0) 0), (1, .agg (b4u o))] [(0, ((γ 0), .box 362 [pI S.s.x, pI S.s.y, pI S.s.count, pI e.time, pI e.to, pI e.from', pI e.count, pI e.n, pI e.kind, pI e.arg, .ref 1 (γ 1), .ref 2 (γ 2)])), (1, ((γ 1), .row 56 7 ((S.sends).map y9y))), (2, ((γ 2), .row 141 5 ((S.outs).map q8q))), (7, (0, .dead)), (6, (0, .dead)), (5, (0, .dead)), (4, (0, .dead)), (3, (0, .dead))] _
 refine dv 1 ?_
 refine y0y (id := 3) rfl rfl rfl (v0v rfl (a1r fun K K' => ?_))
 refine exR (u7u rfl a1u rfl rfl s3s rfl rfl (y8y rfl s3s rfl rfl (a5e (exR (b1p rfl rfl rfl (v0v rfl (a0l rfl ?_ ?_)))))))<;>intro u<;>try simp at u
 ·refine exG (z5z rfl (u7u rfl a1u rfl rfl s3s rfl rfl (y8y rfl s3s rfl rfl (u7u rfl a1u rfl rfl s3s rfl rfl (y8y rfl s3s rfl rfl ?_)))))
  refine rlM [0, 1, 2] [_, _, _] (a5h S e (o.a) (o.b)) rfl rfl rfl ?_
  refine hkL (by assumption) ?_
  refine exR (v0v rfl (a9b ?_))
  exact ⟨.inr rfl, (⟨⟨_, _, _⟩, S.sends, S.outs⟩, 0), ⟨by exact Nat.le_succ _, by exact Nat.le_succ _, by exact (fun q h => .inl h), by show (0 : Int) ≤ 0; omega, by show (0 : Int) ≤ 8; omega⟩, [γ 0, _, _], rfl, rfl, HE.box rfl rfl (HE.row rfl rfl (HE.row rfl rfl HE.nil))⟩
 refine dc 3 (aI ?_ ?_)<;>intro u<;>try simp at u
 ·refine exH (z5z rfl (u7u rfl a1u rfl rfl s3s rfl rfl (y8y rfl s3s rfl rfl (z5z rfl (u7u rfl a1u rfl rfl s3s rfl rfl (y8y rfl s3s rfl rfl ?_))))))
  refine rlM [0, 1, 2] [_, _, _] (a1x S e (o.a)) rfl rfl rfl ?_
  refine z5z rfl (u7u rfl a1u rfl rfl s3s rfl rfl (y8y rfl s3s rfl rfl ?_))
  refine rlM [0, 1, 2] [_, _, _] (a1x S e (o.b)) rfl rfl rfl ?_
  refine z8z rfl rfl rfl ?_
  refine rlM [0, 1, 2] [_, _, _] (a5h S e (o.a) (IntKind.i64.wrap ((if o.a = 0 then S.s.x else S.s.y) + (if o.b = 0 then S.s.x else S.s.y)))) rfl rfl rfl ?_
  refine ⟨by kernel_rfl, hkL (by assumption) ?_⟩
  refine exR (v0v rfl (a9b ?_))
  exact ⟨.inr rfl, (⟨⟨_, _, _⟩, S.sends, S.outs⟩, 0), ⟨by exact Nat.le_succ _, by exact Nat.le_succ _, by exact (fun q h => .inl h), by show (0 : Int) ≤ 0; omega, by show (0 : Int) ≤ 8; omega⟩, [γ 0, _, _], rfl, rfl, HE.box rfl rfl (HE.row rfl rfl (HE.row rfl rfl HE.nil))⟩
 refine exR (b1p rfl rfl rfl (v0v rfl (a0l rfl ?_ ?_)))<;>intro u<;>try simp at u
 ·refine exH (z5z rfl (u7u rfl a1u rfl rfl s3s rfl rfl (y8y rfl s3s rfl rfl (z5z rfl (u7u rfl a1u rfl rfl s3s rfl rfl (y8y rfl s3s rfl rfl ?_))))))
  refine rlM [0, 1, 2] [_, _, _] (a1x S e (o.a)) rfl rfl rfl ?_
  refine u7u rfl a1u rfl rfl s3s rfl rfl (y8y rfl s3s rfl rfl (z8z rfl rfl rfl ?_))
  refine rlM [0, 1, 2] [_, _, _] (a5h S e (o.a) (IntKind.i64.wrap ((if o.a = 0 then S.s.x else S.s.y) + o.b))) rfl rfl rfl ?_
  refine ⟨by kernel_rfl, hkL (by assumption) ?_⟩
  refine exR (v0v rfl (a9b ?_))
  exact ⟨.inr rfl, (⟨⟨_, _, _⟩, S.sends, S.outs⟩, 0), ⟨by exact Nat.le_succ _, by exact Nat.le_succ _, by exact (fun q h => .inl h), by show (0 : Int) ≤ 0; omega, by show (0 : Int) ≤ 8; omega⟩, [γ 0, _, _], rfl, rfl, HE.box rfl rfl (HE.row rfl rfl (HE.row rfl rfl HE.nil))⟩
 refine dc 3 (aI ?_ ?_)<;>intro u<;>try simp at u
 ·refine exH (z5z rfl (u7u rfl a1u rfl rfl s3s rfl rfl (y8y rfl s3s rfl rfl (z5z rfl (b1m rfl rfl (u7u rfl e9v rfl rfl z2z rfl rfl (u7u rfl z2z rfl rfl s3s rfl rfl (y8y rfl s3s rfl rfl ?_))))))))
  refine rlM [0, 1, 2] [_, _, _] (a5h S e (o.a) (e.arg)) rfl rfl rfl ?_
  refine ⟨by kernel_rfl, hkL (by assumption) ?_⟩
  refine exR (v0v rfl (a9b ?_))
  exact ⟨.inr rfl, (⟨⟨_, _, _⟩, S.sends, S.outs⟩, 0), ⟨by exact Nat.le_succ _, by exact Nat.le_succ _, by exact (fun q h => .inl h), by show (0 : Int) ≤ 0; omega, by show (0 : Int) ≤ 8; omega⟩, [γ 0, _, _], rfl, rfl, HE.box rfl rfl (HE.row rfl rfl (HE.row rfl rfl HE.nil))⟩
 refine dc 3 (aI ?_ ?_)<;>intro hc6<;>try simp at hc6
 ·have k5 : o.do' = 5 := hc6
  have hoc : 1 ≤ o.c ∧ o.c ≤ 8 := by unfold b2v at ho; omega
  refine dv 4 ?_
  refine rlM [0, 1, 2] [_, _, _] (a1x S e (o.a)) rfl rfl rfl ?_
  refine dc 3 (aI ?_ ?_)<;>intro u<;>try simp at u
  ·refine dv 5 ?_
   exact ⟨(⟨⟨_, _, _⟩, S.sends, S.outs⟩, o.c), ⟨by exact Nat.le_succ _, by exact Nat.le_succ _, by exact (fun q h => .inl h), by show (0 : Int) ≤ o.c; omega, by show (o.c : Int) ≤ 8; omega⟩, [γ 0, _, _], rfl, rfl, x5x⟩
  refine dv 4 ?_
  exact ⟨(⟨⟨_, _, _⟩, S.sends, S.outs⟩, 0), ⟨by exact Nat.le_succ _, by exact Nat.le_succ _, by exact (fun q h => .inl h), by show (0 : Int) ≤ 0; omega, by show (0 : Int) ≤ 8; omega⟩, [γ 0, _, _], rfl, rfl, x5x⟩
 refine dc 3 (aS ?_ ?_)<;>intro u<;>try simp at u
 ·refine dc 3 (aS ?_ ?_)<;>intro u<;>try simp at u
  ·refine dv 4 ?_
   exact ⟨(⟨⟨_, _, _⟩, S.sends, S.outs⟩, 0), ⟨by exact Nat.le_succ _, by exact Nat.le_succ _, by exact (fun q h => .inl h), by show (0 : Int) ≤ 0; omega, by show (0 : Int) ≤ 8; omega⟩, [γ 0, _, _], rfl, rfl, x5x⟩
  refine dv 25 ?_
  refine a3w (n := S.outs.length) rfl a1b rfl rfl (List.length_map _) ?_
  refine dv 3 ?_
  refine rlM [0, 1, 2] [_, _, _] (a1x S e (o.a)) rfl rfl rfl ?_
  refine rlB w9w c7s ?_
  refine y2y (id := 6) a1b rfl w9w rfl rfl rfl rfl rfl rfl ?_
  refine y6y (zs := (S.outs ++ [(Ou.mk e.time e.to S.s.count (S.outs.length : Int) (if o.a = 0 then S.s.x else S.s.y))]).map q8q) rfl rfl a1b rfl w9w rfl rfl rfl rfl (by rfl) (z7z q8q S.outs (Ou.mk e.time e.to S.s.count (S.outs.length : Int) (if o.a = 0 then S.s.x else S.s.y))) (by (simp only [a0e, r7r, a0b, a0d, a0u, a2z, T141]; omega)) ?_
  refine dv 6 ?_
  exact ⟨(⟨⟨_, _, _⟩, S.sends, S.outs ++ [(Ou.mk e.time e.to S.s.count (S.outs.length : Int) (if o.a = 0 then S.s.x else S.s.y))]⟩, 0), ⟨by exact Nat.le_succ _, by simp, by exact (fun q h => by rcases List.mem_append.1 h with h | h; exact .inl h; exact .inr (by rw [List.mem_singleton.1 h])), by show (0 : Int) ≤ 0; omega, by show (0 : Int) ≤ 8; omega⟩, [γ 0, _, _], rfl, rfl, x5x⟩
 refine dv 8 ?_
 refine z8z rfl rfl rfl (dc 1 (aS ?_ ?_))<;>intro u<;>try simp at u
 ·refine dv 4 ?_
  exact ⟨(⟨⟨_, _, _⟩, S.sends, S.outs⟩, 0), ⟨by exact Nat.le_succ _, by exact Nat.le_succ _, by exact (fun q h => .inl h), by show (0 : Int) ≤ 0; omega, by show (0 : Int) ≤ 8; omega⟩, [γ 0, _, _], rfl, rfl, x5x⟩
 refine dv 13 ?_
 refine z8z rfl rfl rfl (dv 16 ?_)
 refine a3w (n := S.sends.length) rfl u3u rfl rfl (List.length_map _) ?_
 refine dv 5 ?_
 refine rlM [0, 1, 2] [_, _, _] (a1x S e (o.d)) rfl rfl rfl ?_
 refine rlB z2z a7w ?_
 refine y2y (id := 4) u3u rfl z2z rfl rfl rfl rfl rfl rfl ?_
 refine y6y (zs := (S.sends ++ [(Ev.mk (IntKind.i64.wrap (e.time + o.c)) o.a e.to S.s.count (S.sends.length : Int) o.b (if o.d = 0 then S.s.x else S.s.y))]).map y9y) rfl rfl u3u rfl z2z rfl rfl rfl rfl (by rfl) (z7z y9y S.sends (Ev.mk (IntKind.i64.wrap (e.time + o.c)) o.a e.to S.s.count (S.sends.length : Int) o.b (if o.d = 0 then S.s.x else S.s.y))) (by (simp only [a0e, r7r, a0b, a0d, a0u, a2z, T56]; omega)) ?_
 refine dv 6 ?_
 exact ⟨(⟨⟨_, _, _⟩, S.sends ++ [(Ev.mk (IntKind.i64.wrap (e.time + o.c)) o.a e.to S.s.count (S.sends.length : Int) o.b (if o.d = 0 then S.s.x else S.s.y))], S.outs⟩, 0), ⟨by simp, by exact Nat.le_succ _, by exact (fun q h => .inl h), by show (0 : Int) ≤ 0; omega, by show (0 : Int) ≤ 8; omega⟩, [γ 0, _, _], rfl, rfl, x5x⟩
theorem d0m (a : Ap) (s : St) (e : Ev) (hb : ∀ r ∈ a.rules, r.ops.length ≤ 1048576) : MethE Tryz.prog 335 0 [.agg (b9m true a), .agg (s1s s), .agg (y9y e)] [] (ι := Rn) (fun S' => S'.sends.length ≤ 32 ∧ S'.outs.length ≤ 32 ∧ ∀ q ∈ S'.outs, q.time = e.time) (fun S' => []) (fun S' => .tup [.agg (s1s S'.s), q3q true S'.sends, r0r true S'.outs]) (fun S' => []) := by
 refine mE (ι := Rn) Tryz.f335 (fun S' => [.agg (s1s S'.s), q3q true S'.sends, r0r true S'.outs]) 0 12 fun γ => ?_
 refine dv 1 ?_
 refine y0y (id := 0) rfl rfl rfl (y0y (id := 1) rfl rfl rfl (y0y (id := 2) rfl rfl rfl (x3x (id := 3) a5s d1l rfl (dv 5 fun K K' => ?_))))
 refine rlB a5z b6e ?_
 refine rlB a5z b6e ?_
 refine rlB a5z b6e ?_
 refine s8s (id := 4) c8t rfl a5z rfl rfl rfl rfl (.val rfl rfl (.val rfl rfl (.val rfl rfl (.val rfl rfl .nil)))) rfl (s0s rfl) (s0s rfl) (s0s rfl) rfl rfl ?_
 refine b7h rfl rfl rfl (.ref rfl (e5q a) .nil) (b0j false (f4h a) (by intro x hx; simp only [f4h, List.mem_cons, List.not_mem_nil, or_false] at hx; rcases hx with rfl | rfl | rfl | rfl <;> first | exact hb | (intro r hr; cases hr))) (.pv _) ?_
 refine dc 2 (aS ?_ ?_)<;>intro hg2<;>try simp at hg2
 ·refine dv 10 ?_
  refine rlB a5s d1l ?_
  refine y1y (id := 5) u3u rfl z2z rfl (y1y (id := 6) a1b rfl w9w rfl (dv 3 ?_))
  refine p7p (f := y9y) (l := []) 7 rfl rfl (fun _ => rfl) ?_
  refine p7p (f := q8q) (l := []) 8 rfl rfl (fun _ => rfl) ?_
  refine dv 1 ?_
  exact ⟨⟨⟨0, 0, 0⟩, [], []⟩, ⟨Nat.zero_le _, Nat.zero_le _, fun q h => by cases h⟩, [], rfl, rfl, x5x⟩
 have fA : e4q a := f3w (a1d.1 (by simpa using hg2))
 refine dv 1 ?_
 refine x0x rfl rfl rfl (a8c ..) (dc 3 (aS ?_ ?_))<;>intro u<;>try simp at u
 ·refine dv 5 ?_
  refine rlB a5s d1l ?_
  refine y1y (id := 5) u3u rfl z2z rfl (y1y (id := 6) a1b rfl w9w rfl (dv 3 ?_))
  refine p7p (f := y9y) (l := []) 7 rfl rfl (fun _ => rfl) ?_
  refine p7p (f := q8q) (l := []) 8 rfl rfl (fun _ => rfl) ?_
  refine dv 1 ?_
  exact ⟨⟨⟨0, 0, 0⟩, [], []⟩, ⟨Nat.zero_le _, Nat.zero_le _, fun q h => by cases h⟩, [], rfl, rfl, x5x⟩
 refine dv 1 ?_
 refine x0x rfl rfl rfl (a8d ..) (dc 2 (aI ?_ ?_))<;>intro u<;>try simp at u
 ·refine dv 1 ?_
  refine rlB a5s d1l ?_
  refine y1y (id := 5) u3u rfl z2z rfl (y1y (id := 6) a1b rfl w9w rfl (dv 3 ?_))
  refine p7p (f := y9y) (l := []) 7 rfl rfl (fun _ => rfl) ?_
  refine p7p (f := q8q) (l := []) 8 rfl rfl (fun _ => rfl) ?_
  refine dv 1 ?_
  exact ⟨⟨⟨0, 0, 0⟩, [], []⟩, ⟨Nat.zero_le _, Nat.zero_le _, fun q h => by cases h⟩, [], rfl, rfl, x5x⟩
 refine dc 6 (fun K K' => aI ?_ ?_)<;>intro u<;>try simp at u
 ·refine dv 2 ?_
  refine y1y (id := 7) u3u rfl z2z rfl (y1y (id := 8) a1b rfl w9w rfl (dv 3 ?_))
  refine p7p (f := y9y) (l := []) 7 rfl rfl (fun _ => rfl) ?_
  refine p7p (f := q8q) (l := []) 8 rfl rfl (fun _ => rfl) ?_
  refine dv 1 ?_
  exact ⟨⟨s, [], []⟩, ⟨Nat.zero_le _, Nat.zero_le _, fun q h => by cases h⟩, [], rfl, rfl, x5x⟩
 refine dv 4 ?_
 refine y1y (id := 9) u3u rfl z2z rfl (y1y (id := 10) a1b rfl w9w rfl (rlB e9v f4z ?_))
 refine y0y (id := 11) rfl rfl rfl (dv 5 fun K K' => ?_)
 refine x4x (ι := Rn × Nat) (fun p γ1 => [(10, pI (p.2 : Int))]) (fun p γ1 => [(9, ((γ1 9), .row 56 7 ((p.1.sends).map y9y))), (10, ((γ1 10), .row 141 5 ((p.1.outs).map q8q))), (11, ((0 + 1), .box 362 [pI p.1.s.x, pI p.1.s.y, pI p.1.s.count, pI e.time, pI e.to, pI e.from', pI e.count, pI e.n, pI e.kind, pI e.arg, .ref 9 (γ1 9), .ref 10 (γ1 10)]))]) (fun p => p.2 ≤ a.rules.length ∧ p.1.sends.length ≤ 8 * p.2 ∧ p.1.outs.length ≤ 8 * p.2 ∧ ∀ q ∈ p.1.outs, q.time = e.time) (fun p => a.rules.length - p.2) (q6q [3, 5, 6, 9] rfl) (a0p [0, 1, 2, 3, 4, 5, 6, 7, 8] rfl) (⟨s, [], []⟩, 0) ⟨Nat.zero_le _, Nat.zero_le _, Nat.zero_le _, fun q h => by cases h⟩ [0, 0, 0, 0, 0, 0, 0, 0, 0, _, _] x6x (HE.row rfl (by rfl) (HE.row rfl (by rfl) (HE.box rfl (by rfl) HE.nil))) rfl fun p γ1 hi => ?_
 obtain ⟨S, i⟩ := p
 obtain ⟨h1, h2, h3, h4⟩ := hi
 dsimp only at h1 h2 h3 h4 ⊢
 refine dc 7 (fun K K' => aS ?_ ?_)<;>intro u<;>try simp at u
 ·have ha4 := fA.1
  refine dv 8 ?_
  refine z8z rfl rfl rfl (dv 20 ?_)
  refine p7p 7 rfl rfl (fun _ => rfl) ?_
  refine p7p 8 rfl rfl (fun _ => rfl) ?_
  refine dv 1 ?_
  exact ⟨⟨⟨S.s.x, S.s.y, IntKind.i64.wrap (S.s.count + 1)⟩, S.sends, S.outs⟩, ⟨by show S.sends.length ≤ 32; omega, by show S.outs.length ≤ 32; omega, by exact h4⟩, [], rfl, rfl, x5x⟩
 obtain ⟨r, hr⟩ := gE a.rules i
 have hro := fA.2 i r hr
 have hr8 := hro.2.1.2.1
 have ha4 := fA.1
 refine dc 14 (fun K K' K K' => aI ?_ ?_)<;>intro u<;>try simp at u
 ·refine dv 3 ?_
  refine x8x (b := 1) rfl rfl (by omega) (dv 1 ?_)
  exact ⟨(S, i + 1), ⟨(by exact ⟨by show i + 1 ≤ _; omega, by show S.sends.length ≤ 8 * (i + 1); omega, by show S.outs.length ≤ 8 * (i + 1); omega, h4⟩), (by show a.rules.length - (i + 1) < a.rules.length - i; omega)⟩, [0, 0, 0, 0, 0, 0, 0, 0, 0, _, _], x6x, x6x, x5x, x5x, rfl⟩
 refine dv 12 ?_
 refine x4x (ι := Rn × Nat × Nat) (fun p γ2 => [(12, pI (p.2.1 : Int))]) (fun p γ2 => [(9, ((γ2 9), .row 56 7 ((p.1.sends).map y9y))), (10, ((γ2 10), .row 141 5 ((p.1.outs).map q8q))), (11, ((0 + 1), .box 362 [pI p.1.s.x, pI p.1.s.y, pI p.1.s.count, pI e.time, pI e.to, pI e.from', pI e.count, pI e.n, pI e.kind, pI e.arg, .ref 9 (γ2 9), .ref 10 (γ2 10)]))]) (fun p => p.2.1 ≤ 20 ∧ p.2.2 ≤ p.2.1 ∧ p.2.2 ≤ 8 ∧ p.1.sends.length ≤ 8 * i + p.2.2 ∧ p.1.outs.length ≤ 8 * i + p.2.2 ∧ ∀ q ∈ p.1.outs, q.time = e.time) (fun p => 20 - p.2.1) (q6q [3, 5, 6, 9, 10, 11] rfl) (a0p [0, 1, 2, 3, 4, 5, 6, 7, 8] rfl) (S, 0, 0) ⟨Nat.zero_le _, Nat.le_refl _, Nat.zero_le _, h2, h3, h4⟩ [0, 0, 0, 0, 0, 0, 0, 0, 0, _, _] x6x x5x rfl fun p γ2 hi => ?_
 obtain ⟨S, k, m⟩ := p
 obtain ⟨k1, k2, k3, k3a, k4, k5⟩ := hi
 dsimp only at k1 k2 k3 k3a k4 k5 ⊢
 refine dc 6 (fun K K' => aS ?_ ?_)<;>intro u<;>try simp at u
 ·refine dv 3 ?_
  refine x8x (b := 1) rfl rfl (by omega) (dv 1 ?_)
  exact ⟨(S, i + 1), ⟨(by exact ⟨by show i + 1 ≤ _; omega, by show S.sends.length ≤ 8 * (i + 1); omega, by show S.outs.length ≤ 8 * (i + 1); omega, k5⟩), (by show a.rules.length - (i + 1) < a.rules.length - i; omega)⟩, [0, 0, 0, 0, 0, 0, 0, 0, 0, _, _], x6x, x6x, x5x, x5x, rfl⟩
 obtain ⟨o, ho⟩ := gE r.ops k
 have hok := hro.2.1.1 o (List.mem_of_getElem? ho)
 refine dv 3 fun K K' => ?_
 refine a8n fun B X0 w0 => ?_
 refine txR 6 rfl rfl (dv 5 ?_)
 refine v4v (out := .agg (b4u o)) rfl a1u rfl ?_
 refine txM [11, 9, 10] [_, _, _] (c5k S e o hok (by omega) (by omega)) rfl rfl rfl rfl fun j hj => ?_
 obtain ⟨q1, q2, q3, q4, q5⟩ := hj
 obtain ⟨sk, hsk⟩ : ∃ sk : Nat, j.2 = (sk : Int) := ⟨j.2.toNat, by omega⟩
 rw [hsk]
 refine txR 2 rfl rfl (x8x rfl rfl (by omega) (dv 1 ?_))
 refine u2u rfl (dv 2 ?_)
 refine x8x (b := 1) rfl rfl (by omega) (dv 1 ?_)
 exact ⟨(j.1, k + sk + 1, m + 1), ⟨(by exact ⟨by show k + sk + 1 ≤ 20; omega, by show m + 1 ≤ k + sk + 1; omega, by show m + 1 ≤ 8; omega, by show j.1.sends.length ≤ 8 * i + (m + 1); omega, by show j.1.outs.length ≤ 8 * i + (m + 1); omega, fun q hq => (q3 q hq).elim (k5 q) (fun h => h)⟩), (by show 20 - (k + sk + 1) < 20 - k; omega)⟩, [0, 0, 0, 0, 0, 0, 0, 0, 0, _, _], x6x, x6x, x5x, x5x, rfl⟩
end
section
theorem d0n (c : Bool) (p : Pa) (proc : Int) : a0t Tryz.prog 219 [.agg (a0j c p), .pv (.int .i64 proc)] (.pv (.bool (b9i proc p))) := by
 refine pX Tryz.f219 [.pv (.bool (b9i proc p))] 1 ?_
 refine dv 1 ?_
 refine y0y (id := 0) rfl rfl rfl (dv 3 ?_)
 refine y8y (out := .agg (y9y p.ev)) rfl z2z rfl rfl ?_
 refine x0x rfl rfl rfl (b6o ..) (dc 1 (aS ?_ ?_))<;>intro h<;>try simp at h
 ·refine dv 22 ?_
  refine x2x rfl ?_ rfl
  simp [b9i, *]
 refine dc 7 (aS ?_ ?_)<;>intro h<;>try simp at h
 ·refine dv 15 ?_
  refine x2x rfl ?_ rfl
  simp [b9i, *]
 refine dv 1 ?_
 refine y8y (out := .agg (s1s p.after)) rfl a5s rfl rfl ?_
 refine dv 0 ?_
 refine x0x rfl rfl rfl (b6n ..) (dc 2 (aS ?_ ?_))<;>intro h<;>try simp at h
 ·refine dv 10 ?_
  refine x2x rfl ?_ rfl
  simp [b9i, *]
 refine dv 2 ?_
 refine x0x rfl rfl rfl (a6i ..) (dc 2 (aS ?_ ?_))<;>intro h<;>try simp at h
 ·refine dv 5 ?_
  refine x2x rfl ?_ rfl
  simp [b9i, *]
 refine dv 2 ?_
 refine x0x rfl rfl rfl (b9p ..) (dv 3 ?_)
 refine x2x rfl ?_ rfl
 simp [b9i, *]
theorem c2e (c : Bool) (p : Pa) (proc : Int) : a0t Tryz.prog 120 [.agg (a0j c p), .pv (.int .i64 proc)] (.pv (.bool (b9i proc p))) := by
 refine pX Tryz.f120 [.pv (.bool (b9i proc p))] 1 ?_
 refine dv 1 ?_
 refine y0y (id := 0) rfl rfl rfl (dv 3 ?_)
 refine y8y (out := .agg (y9y p.ev)) rfl z2z rfl rfl ?_
 refine x0x rfl rfl rfl (a8d ..) (dc 1 (aS ?_ ?_))<;>intro h<;>try simp at h
 ·refine dv 22 ?_
  refine x2x rfl ?_ rfl
  simp [b9i, *]
 refine dc 7 (aS ?_ ?_)<;>intro h<;>try simp at h
 ·refine dv 15 ?_
  refine x2x rfl ?_ rfl
  simp [b9i, *]
 refine dv 1 ?_
 refine y8y (out := .agg (s1s p.after)) rfl a5s rfl rfl ?_
 refine dv 0 ?_
 refine x0x rfl rfl rfl (a8c ..) (dc 2 (aS ?_ ?_))<;>intro h<;>try simp at h
 ·refine dv 10 ?_
  refine x2x rfl ?_ rfl
  simp [b9i, *]
 refine dv 2 ?_
 refine x0x rfl rfl rfl (a4d ..) (dc 2 (aS ?_ ?_))<;>intro h<;>try simp at h
 ·refine dv 5 ?_
  refine x2x rfl ?_ rfl
  simp [b9i, *]
 refine dv 2 ?_
 refine x0x rfl rfl rfl (a8q ..) (dv 3 ?_)
 refine x2x rfl ?_ rfl
 simp [b9i, *]
theorem a4j  : a0t Tryz.prog 119 [] (.pv (.int .i64 100)) := by
 refine pX Tryz.f119 [.pv (.int .i64 100)] 0 ?_
 refine dv 5 ?_
 exact x2x rfl rfl rfl
theorem d0o (c : Bool) (l : La) : a0t Tryz.prog 113 [.agg (q7q c l)] (.pv (.bool (a7r l))) := by
 refine pX Tryz.f113 [.pv (.bool (a7r l))] 2 ?_
 refine dv 1 ?_
 refine y0y (id := 0) rfl rfl rfl (dv 5 fun K K' => ?_)
 refine x0x rfl rfl rfl (a8p ..) (dc 2 (aS ?_ ?_))<;>intro hg2<;>try simp at hg2
 ·have hn1 : ¬ (0 ≤ l.proc ∧ l.proc ≤ 3) := by omega
  refine dv 11 ?_
  try have hn3 : ¬ l.done.length ≤ 100 := by omega
  refine dv 3 ?_
  refine x2x rfl ?_ rfl
  exact congrArg (fun b : Bool => [AV.pv (.bool b)]) (f0d hn1).symm
 have hc1 : 0 ≤ l.proc ∧ l.proc ≤ 3 := hg2
 refine dv 1 ?_
 refine y8y (out := .agg (s1s l.base)) rfl a5s rfl rfl ?_
 refine dv 0 ?_
 refine x0x rfl rfl rfl (b6n ..) (dc 3 (aS ?_ ?_))<;>intro hg3<;>try simp at hg3
 ·have hn2 : ¬ c6f l.base := hg3
  refine dv 5 ?_
  try have hn3 : ¬ l.done.length ≤ 100 := by omega
  refine dv 3 ?_
  refine x2x rfl ?_ rfl
  exact congrArg (fun b : Bool => [AV.pv (.bool b)]) (f0e hn2).symm
 have hc2 : c6f l.base := hg3
 refine dc 5 (aI ?_ ?_)<;>intro h<;>try simp at h
 ·try have hn3 : ¬ l.done.length ≤ 100 := by omega
  refine dv 3 ?_
  refine x2x rfl ?_ rfl
  exact congrArg (fun b : Bool => [AV.pv (.bool b)]) (f0g hn3).symm
 have hc3 : l.done.length ≤ 100 := by omega
 refine dv 8 fun K K' => ?_
 refine x4x (ι := Nat) (fun i γ1 => [(24, pI (i : Int))]) (fun i γ1 => [(1, ((γ1 1), .dead))]) (fun i => i ≤ l.done.length ∧ a7r l = b1d (b9i l.proc) f0c (b3r l.done i) (l.done.drop i)) (fun i => l.done.length - i) (q6q [1, 22, 23] rfl) (u8u 0 rfl HE.nil) 0 ⟨by omega, c9n hc1 hc2 hc3⟩ [0, _] x6x x5x rfl fun i γ1 hi => ?_
 obtain ⟨h1, h2⟩ := hi
 refine dc 3 (fun K K' => aS ?_ ?_)<;>intro h<;>try simp at h
 ·obtain rfl : i = l.done.length := by omega
  rw [List.drop_length] at h2
  refine dv 4 ?_
  refine x2x rfl ?_ rfl
  exact congrArg (fun b : Bool => [AV.pv (.bool b)]) h2.symm
 obtain ⟨p, hp⟩ := gE l.done i
 rw [p8p hp] at h2
 refine dv 7 fun K K' => ?_
 refine x3x (id := 1) a3q c0m rfl (dv 6 ?_)
 refine x0x rfl rfl rfl (d0n ..) (dc 2 (aS ?_ ?_))<;>intro hg9<;>try simp at hg9
 ·have hbad : b9i l.proc p = false := by simpa using hg9
  refine dv 19 ?_
  refine x2x rfl ?_ rfl
  exact congrArg (fun b : Bool => [AV.pv (.bool b)]) (h2.trans (a7b _ _ hbad)).symm
 have hok : b9i l.proc p = true := by simpa using hg9
 refine dc 3 (aS ?_ ?_)<;>intro h<;>try simp at h
 ·have hi0 : i = 0 := by omega
  have hlast : b3r l.done i = none := by rw [hi0]; rfl
  rw [hlast] at h2
  refine dv 15 ?_
  refine x8x (b := 1) rfl rfl (by omega) (dv 1 ?_)
  exact ⟨i + 1, ⟨⟨by omega, by rw [h2]; show _ = b1d (b9i l.proc) f0c l.done[i]? _; rw [hp]; exact a8y _ _ hok⟩, by omega⟩, [0, _], x6x, x6x, x5x, x5x, rfl⟩
 have hi0 : 0 < i := by omega
 obtain ⟨b, hb⟩ := gE l.done (i - 1)
 have hlast : b3r l.done i = some b := by obtain ⟨j, rfl⟩ : ∃ j, i = j + 1 := ⟨i - 1, by omega⟩; exact hb
 rw [hlast] at h2
 refine dv 3 ?_
 refine p6p (b := 1) rfl rfl (by omega) (by omega) (dv 2 ?_)
 refine v4v (out := .agg (y9y b.ev)) rfl z2z rfl ?_
 refine dv 1 ?_
 refine y8y (out := .agg (y9y p.ev)) rfl z2z rfl rfl ?_
 refine dv 0 ?_
 refine x0x rfl rfl rfl (b3i ..) (dc 3 (aS ?_ ?_))<;>intro hc11<;>try simp at hc11
 ·try have hlt := hc11
  refine dv 2 ?_
  refine x8x (b := 1) rfl rfl (by omega) (dv 1 ?_)
  exact ⟨i + 1, ⟨⟨by omega, by rw [h2]; show _ = b1d (b9i l.proc) f0c l.done[i]? _; rw [hp]; exact b1t _ _ hok hlt⟩, by omega⟩, [0, _], x6x, x6x, x5x, x5x, rfl⟩
 try have hlt := hc11
 refine dv 3 ?_
 refine x2x rfl ?_ rfl
 exact congrArg (fun b : Bool => [AV.pv (.bool b)]) (h2.trans (c0u _ _ hlt)).symm
theorem a4k (c : Bool) (l : La) : a0t Tryz.prog 32 [.agg (q7q c l)] (.pv (.bool (a7r l))) := by
 refine pX Tryz.f32 [.pv (.bool (a7r l))] 1 ?_
 refine dv 1 ?_
 refine y0y (id := 0) rfl rfl rfl (dv 5 fun K K' => ?_)
 refine x0x rfl rfl rfl (a4i ..) (dc 2 (aS ?_ ?_))<;>intro hg2<;>try simp at hg2
 ·have hn1 : ¬ (0 ≤ l.proc ∧ l.proc ≤ 3) := by omega
  refine dv 12 ?_
  try have hn3 : ¬ l.done.length ≤ 100 := by omega
  refine dv 3 ?_
  refine x2x rfl ?_ rfl
  exact congrArg (fun b : Bool => [AV.pv (.bool b)]) (f0d hn1).symm
 have hc1 : 0 ≤ l.proc ∧ l.proc ≤ 3 := hg2
 refine dv 1 ?_
 refine y8y (out := .agg (s1s l.base)) rfl a5s rfl rfl ?_
 refine dv 0 ?_
 refine x0x rfl rfl rfl (a8c ..) (dc 3 (aS ?_ ?_))<;>intro hg3<;>try simp at hg3
 ·have hn2 : ¬ c6f l.base := hg3
  refine dv 6 ?_
  try have hn3 : ¬ l.done.length ≤ 100 := by omega
  refine dv 3 ?_
  refine x2x rfl ?_ rfl
  exact congrArg (fun b : Bool => [AV.pv (.bool b)]) (f0e hn2).symm
 have hc2 : c6f l.base := hg3
 refine dv 3 ?_
 refine x0x rfl rfl rfl (a4j ..) (dc 2 (aI ?_ ?_))<;>intro h<;>try simp at h
 ·try have hn3 : ¬ l.done.length ≤ 100 := by omega
  refine dv 3 ?_
  refine x2x rfl ?_ rfl
  exact congrArg (fun b : Bool => [AV.pv (.bool b)]) (f0g hn3).symm
 have hc3 : l.done.length ≤ 100 := by omega
 refine dv 5 fun K K' => ?_
 refine x4x (ι := Nat) (fun i γ1 => [(3, pI (i : Int))]) (fun i γ1 => []) (fun i => i ≤ l.done.length ∧ a7r l = b1d (b9i l.proc) f0c (b3r l.done i) (l.done.drop i)) (fun i => l.done.length - i) (x7x 1 rfl Cov.nil) (u8u 0 rfl HE.nil) 0 ⟨by omega, c9n hc1 hc2 hc3⟩ [] x6x x5x rfl fun i γ1 hi => ?_
 obtain ⟨h1, h2⟩ := hi
 refine dc 7 (fun K K' => aS ?_ ?_)<;>intro h<;>try simp at h
 ·obtain rfl : i = l.done.length := by omega
  rw [List.drop_length] at h2
  refine dv 4 ?_
  refine x2x rfl ?_ rfl
  exact congrArg (fun b : Bool => [AV.pv (.bool b)]) h2.symm
 obtain ⟨p, hp⟩ := gE l.done i
 rw [p8p hp] at h2
 refine dv 11 fun K K' => ?_
 refine x0x rfl rfl rfl (c2e ..) (dc 2 (aS ?_ ?_))<;>intro hg9<;>try simp at hg9
 ·have hbad : b9i l.proc p = false := by simpa using hg9
  refine dv 23 ?_
  refine x2x rfl ?_ rfl
  exact congrArg (fun b : Bool => [AV.pv (.bool b)]) (h2.trans (a7b _ _ hbad)).symm
 have hok : b9i l.proc p = true := by simpa using hg9
 refine dc 3 (aS ?_ ?_)<;>intro h<;>try simp at h
 ·have hi0 : i = 0 := by omega
  have hlast : b3r l.done i = none := by rw [hi0]; rfl
  rw [hlast] at h2
  refine dv 20 ?_
  refine x8x (b := 1) rfl rfl (by omega) (dv 1 ?_)
  exact ⟨i + 1, ⟨⟨by omega, by rw [h2]; show _ = b1d (b9i l.proc) f0c l.done[i]? _; rw [hp]; exact a8y _ _ hok⟩, by omega⟩, [], x6x, x6x, x5x, x5x, rfl⟩
 have hi0 : 0 < i := by omega
 obtain ⟨b, hb⟩ := gE l.done (i - 1)
 have hlast : b3r l.done i = some b := by obtain ⟨j, rfl⟩ : ∃ j, i = j + 1 := ⟨i - 1, by omega⟩; exact hb
 rw [hlast] at h2
 refine dv 3 ?_
 refine p6p (b := 1) rfl rfl (by omega) (by omega) (dv 2 ?_)
 refine v4v (out := .agg (y9y b.ev)) rfl z2z rfl ?_
 refine dv 5 ?_
 refine v4v (out := .agg (y9y p.ev)) rfl z2z rfl ?_
 refine dv 0 ?_
 refine x0x rfl rfl rfl (a5g ..) (dc 3 (aS ?_ ?_))<;>intro hc11<;>try simp at hc11
 ·try have hlt := hc11
  refine dv 3 ?_
  refine x8x (b := 1) rfl rfl (by omega) (dv 1 ?_)
  exact ⟨i + 1, ⟨⟨by omega, by rw [h2]; show _ = b1d (b9i l.proc) f0c l.done[i]? _; rw [hp]; exact b1t _ _ hok hlt⟩, by omega⟩, [], x6x, x6x, x5x, x5x, rfl⟩
 try have hlt := hc11
 refine dv 3 ?_
 refine x2x rfl ?_ rfl
 exact congrArg (fun b : Bool => [AV.pv (.bool b)]) (h2.trans (c0u _ _ hlt)).symm
end
section
theorem a1y (c : Bool) (l : List Ev) (hl : l.length ≤ 10000000) : a0t Tryz.prog 111 [q3q c l] (q3q true (z4z l)) := by
 refine pX Tryz.f111 [q3q true (z4z l)] 3 ?_
 refine dv 3 ?_
 refine y1y (id := 0) u3u rfl z2z rfl (dv 5 fun K K' => ?_)
 refine x4x (ι := Nat) (fun i γ1 => [(3, .ref 0 (γ1 0)), (4, pI (i : Int))]) (fun i γ1 => [(0, ((γ1 0), .row 56 7 ((z4z (l.take i)).map y9y))), (1, ((γ1 1), .dead)), (2, ((γ1 2), .dead))]) (fun i => i ≤ l.length) (fun i => l.length - i) (x7x 0 rfl Cov.nil) HE.nil 0 (by omega) [_, _, _] x6x (HE.row rfl (by rw [List.take_zero]; rfl) (HE.kill rfl (HE.kill rfl HE.nil))) rfl fun i γ1 hi => ?_
 refine dc 6 (fun K K' => aS ?_ ?_)<;>intro o<;>try simp at o
 ·obtain rfl : i = l.length := by omega
  refine dv 5 ?_
  refine a5i rfl rfl (fun _ => rfl) ?_
  rw [List.take_length]
 obtain ⟨x, hx⟩ := gE l i
 have hol : (z4z (l.take i)).length ≤ 10000000 := Nat.le_trans (a9l _) (by rw [List.length_take]; omega)
 have hss := b4m (l.take i)
 refine dv 7 fun K K' => ?_
 refine p9p (ι := Nat) (fun k γ2 => [(5, pI (k : Int))]) (fun k γ2 => []) (fun k => k ≤ (z4z (l.take i)).length ∧ (∀ (j : Nat) y, k ≤ j → (z4z (l.take i))[j]? = some y → a2t x y = true) ∧ (∀ y, 0 < k → (z4z (l.take i))[k - 1]? = some y → a2t x y = false)) (q6q [0, 3, 4] rfl) (a0p [0, 1, 2] rfl) ?_ fun k γ2 hi => ?_
 ·refine dv 1 ?_
  refine x4x (ι := Nat) (fun k γ3 => [(5, pI (k : Int))]) (fun k γ3 => []) (fun k => k ≤ (z4z (l.take i)).length ∧ (∀ (j : Nat) y, k ≤ j → (z4z (l.take i))[j]? = some y → a2t x y = true)) (fun k => k) (q6q [0, 3, 4] rfl) (a0p [0, 1, 2] rfl) (z4z (l.take i)).length ⟨Nat.le_refl _, fun j y hj hy => by have := (List.getElem?_eq_some_iff.1 hy).1; omega⟩ [] x6x x5x rfl fun k γ3 hi => ?_
  obtain ⟨k1, k2⟩ := hi
  refine dc 5 (fun K K' => aS ?_ ?_)<;>intro o<;>try simp at o
  ·have k0 : k = 0 := by omega
   refine dv 12 ?_
   exact ⟨k, ⟨k1, k2, fun y2 h0 h2 => by omega⟩, [], x6x, x6x, x5x, x5x, rfl⟩
  have k0 : 0 < k := by omega
  obtain ⟨y, hy⟩ := gE (z4z (l.take i)) (k - 1)
  refine dv 6 ?_
  refine p6p (b := 1) rfl rfl (by omega) (by omega) (dv 0 ?_)
  refine z0z (j := k - 1) rfl rfl u3u rfl z2z rfl rfl (by omega) ?_
  refine dv 1 ?_
  refine x0x rfl rfl rfl (a5g ..) (dc 1 (aS ?_ ?_))<;>intro hc7<;>try simp at hc7
  ·try have hlt := hc7
   refine dv 1 ?_
   exact ⟨k, ⟨k1, k2, fun y2 h0 h2 => by (rw [hy] at h2; cases h2; exact hlt)⟩, [], x6x, x6x, x5x, x5x, rfl⟩
  try have hlt := hc7
  refine dv 4 ?_
  refine p6p (b := 1) rfl rfl (by omega) (by omega) (dv 1 ?_)
  exact ⟨k - 1, ⟨⟨by omega, fun j y2 hj hy2 => by by_cases hjk : j = k - 1; (subst hjk; rw [hy] at hy2; cases hy2; exact hlt); exact k2 j y2 (by omega) hy2⟩, by omega⟩, [], x6x, x6x, x5x, x5x, rfl⟩
 ·try dsimp only [b1e, b1f]
  obtain ⟨c1, c2, c3⟩ := hi
  refine dc 5 (fun K K' => aS ?_ ?_)<;>intro o<;>try simp at o
  ·have k0 : k = 0 := by omega
   refine dv 11 ?_
   have hin : z4z (l.take (i + 1)) = (z4z (l.take i)).take k ++ x :: (z4z (l.take i)).drop k := by rw [a6v hx]; exact c9q c4b hss c2 (fun y2 h0 h2 => ⟨c3 y2 h0 h2, by omega⟩) c1
   refine dv 7 ?_
   refine y2y (id := 1) u3u rfl z2z rfl rfl rfl rfl rfl rfl ?_
   refine y6y (zs := (z4z (l.take i) ++ [x]).map y9y) rfl rfl u3u rfl z2z rfl rfl rfl rfl (by rfl) (z7z _ _ _) (by have hb56 : T56.bytes = 56 := rfl; rw [List.length_map, hb56]; simp only [r7r, a0b, a0d]; omega) ?_
   refine dv 5 fun K K' => ?_
   refine p6p (b := 1) rfl rfl (by (simp; done)) (by (simp; omega)) ?_
   refine dv 2 ?_
   refine x4x (ι := Nat × Ev) (fun q γ5 => [(6, pI (q.1 : Int))]) (fun q γ5 => [(0, ((γ1 0 + 1), .row 56 7 (((z4z (l.take i)).take q.1 ++ q.2 :: (z4z (l.take i)).drop q.1).map y9y)))]) (fun q => k ≤ q.1 ∧ q.1 ≤ (z4z (l.take i)).length) (fun q => q.1) (q6q [0, 3, 4, 5] rfl) (a0p [1, 2] rfl) ((z4z (l.take i)).length, x) ⟨c1, Nat.le_refl _⟩ [] (Cov.cons' (t := 6) rfl (by simp) Cov.nil) (HE.row rfl (by rw [List.take_length, List.drop_length]) HE.nil) rfl fun q γ5 hi => ?_
   obtain ⟨m, u⟩ := q
   obtain ⟨m1, m2⟩ := hi
   dsimp only at m1 m2 ⊢
   refine dc 5 (fun K K' => aS ?_ ?_)<;>intro o<;>try simp at o
   ·obtain rfl : k = m := by omega
    refine a7t (hkL (by assumption) ?_)
    refine exG (z5z rfl (z5z rfl (z5z rfl (z5z rfl (b0q rfl rfl u3u rfl z2z rfl hx (a7j rfl z2z rfl rfl ?_))))))
    refine z0z (j := k) rfl rfl u3u rfl z2z rfl rfl (y7y (b5z c1)) ?_
    refine v6v (el' := x) rfl rfl z2z rfl rfl rfl (b5z c1) rfl (a3o _) rfl rfl ?_
    refine dv 2 ?_
    refine x8x (b := 1) rfl rfl (by omega) (dv 1 ?_)
    exact ⟨i + 1, ⟨by omega, by omega⟩, [_, _, _], x6x, x6x, (HE.row rfl (by rw [hin, d2o c1]) (HE.kill rfl (HE.kill rfl HE.nil))), x5x, rfl⟩
   obtain ⟨z, hz⟩ := gE (z4z (l.take i)) (m - 1)
   refine dv 8 fun K K' => ?_
   refine p6p (b := 1) rfl rfl (by omega) (by omega) ?_
   refine z0z (j := m - 1) rfl rfl u3u rfl z2z rfl rfl (y7y (c1y m2 (by omega) hz)) ?_
   refine a0g rfl z2z rfl (c1y m2 (by omega) hz) rfl rfl ?_
   refine z0z (j := m) rfl rfl u3u rfl z2z rfl rfl (y7y (b5z m2)) ?_
   refine v6v (el' := z) rfl rfl z2z rfl rfl rfl (b5z m2) rfl (a3o _) rfl rfl ?_
   refine dv 2 ?_
   refine p6p (b := 1) rfl rfl (by omega) (by omega) (dv 1 ?_)
   exact ⟨(m - 1, z), ⟨⟨by dsimp only; omega, by dsimp only; omega⟩, (by dsimp only; omega)⟩, [], x6x, x6x, (HE.row rfl (by rw [d7a m2 (by omega) hz]) HE.nil), x5x, rfl⟩
  have k0 : 0 < k := by omega
  obtain ⟨y, hy⟩ := gE (z4z (l.take i)) (k - 1)
  refine dv 2 ?_
  refine p6p (b := 1) rfl rfl (by omega) (by omega) (dv 0 ?_)
  refine z0z (j := k - 1) rfl rfl u3u rfl z2z rfl rfl (by omega) ?_
  refine dv 5 ?_
  refine a6o rfl rfl (by intro a c h; cases h) (.inl rfl) (e3v _ _ _ _) ?_
  refine dc 1 (aI ?_ ?_)<;>intro hc11<;>try simp at hc11
  ·have hyx : y = x := by simpa [a1t] using hc11
   have hsk : z4z (l.take (i + 1)) = z4z (l.take i) := by rw [a6v hx]; exact e3a c4b hss (List.mem_of_getElem? (hyx ▸ hy))
   refine dv 3 ?_
   refine x8x (b := 1) rfl rfl (by omega) (dv 1 ?_)
   exact ⟨i + 1, ⟨by omega, by omega⟩, [_, _, _], x6x, x6x, (HE.row rfl (by rw [hsk]) (HE.kill rfl (HE.kill rfl HE.nil))), x5x, rfl⟩
  try have hyx : ¬ y = x := by simpa [a1t] using hc11
  have hin : z4z (l.take (i + 1)) = (z4z (l.take i)).take k ++ x :: (z4z (l.take i)).drop k := by rw [a6v hx]; exact c9q c4b hss c2 (fun y2 h0 h2 => ⟨c3 y2 h0 h2, by (rw [hy] at h2; cases h2; exact hyx)⟩) c1
  refine dv 7 ?_
  refine y2y (id := 1) u3u rfl z2z rfl rfl rfl rfl rfl rfl ?_
  refine y6y (zs := (z4z (l.take i) ++ [x]).map y9y) rfl rfl u3u rfl z2z rfl rfl rfl rfl (by rfl) (z7z _ _ _) (by have hb56 : T56.bytes = 56 := rfl; rw [List.length_map, hb56]; simp only [r7r, a0b, a0d]; omega) ?_
  refine dv 5 fun K K' => ?_
  refine p6p (b := 1) rfl rfl (by (simp; done)) (by (simp; omega)) ?_
  refine dv 2 ?_
  refine x4x (ι := Nat × Ev) (fun q γ4 => [(6, pI (q.1 : Int))]) (fun q γ4 => [(0, ((γ1 0 + 1), .row 56 7 (((z4z (l.take i)).take q.1 ++ q.2 :: (z4z (l.take i)).drop q.1).map y9y)))]) (fun q => k ≤ q.1 ∧ q.1 ≤ (z4z (l.take i)).length) (fun q => q.1) (q6q [0, 3, 4, 5] rfl) (a0p [1, 2] rfl) ((z4z (l.take i)).length, x) ⟨c1, Nat.le_refl _⟩ [] (Cov.cons' (t := 6) rfl (by simp) Cov.nil) (HE.row rfl (by rw [List.take_length, List.drop_length]) HE.nil) rfl fun q γ4 hi => ?_
  obtain ⟨m, u⟩ := q
  obtain ⟨m1, m2⟩ := hi
  dsimp only at m1 m2 ⊢
  refine dc 5 (fun K K' => aS ?_ ?_)<;>intro o<;>try simp at o
  ·obtain rfl : k = m := by omega
   refine a7t (hkL (by assumption) ?_)
   refine exG (z5z rfl (z5z rfl (z5z rfl (z5z rfl (b0q rfl rfl u3u rfl z2z rfl hx (a7j rfl z2z rfl rfl ?_))))))
   refine z0z (j := k) rfl rfl u3u rfl z2z rfl rfl (y7y (b5z c1)) ?_
   refine v6v (el' := x) rfl rfl z2z rfl rfl rfl (b5z c1) rfl (a3o _) rfl rfl ?_
   refine dv 2 ?_
   refine x8x (b := 1) rfl rfl (by omega) (dv 1 ?_)
   exact ⟨i + 1, ⟨by omega, by omega⟩, [_, _, _], x6x, x6x, (HE.row rfl (by rw [hin, d2o c1]) (HE.kill rfl (HE.kill rfl HE.nil))), x5x, rfl⟩
  obtain ⟨z, hz⟩ := gE (z4z (l.take i)) (m - 1)
  refine dv 8 fun K K' => ?_
  refine p6p (b := 1) rfl rfl (by omega) (by omega) ?_
  refine z0z (j := m - 1) rfl rfl u3u rfl z2z rfl rfl (y7y (c1y m2 (by omega) hz)) ?_
  refine a0g rfl z2z rfl (c1y m2 (by omega) hz) rfl rfl ?_
  refine z0z (j := m) rfl rfl u3u rfl z2z rfl rfl (y7y (b5z m2)) ?_
  refine v6v (el' := z) rfl rfl z2z rfl rfl rfl (b5z m2) rfl (a3o _) rfl rfl ?_
  refine dv 2 ?_
  refine p6p (b := 1) rfl rfl (by omega) (by omega) (dv 1 ?_)
  exact ⟨(m - 1, z), ⟨⟨by dsimp only; omega, by dsimp only; omega⟩, (by dsimp only; omega)⟩, [], x6x, x6x, (HE.row rfl (by rw [d7a m2 (by omega) hz]) HE.nil), x5x, rfl⟩
end
section
theorem a3l (c : Bool) (l : La) (f t : Nat) (hlen : l.done.length ≤ 1000000) (hf : f ≤ 1000000) (ht : t ≤ 1000000) (hb : ∀ p ∈ l.done, p.sends.length ≤ 1000000 ∧ p.outs.length ≤ 1000000) : a0t Tryz.prog 110 [.agg (q7q c l), .pv (.int .i64 (f : Int)), .pv (.int .i64 (t : Int))] (.agg (q7q true (a0q l f t))) := by
 refine pX Tryz.f110 [.agg (q7q true (a0q l f t))] 11 ?_
 refine dv 1 ?_
 refine y0y (id := 0) rfl rfl rfl (x3x (id := 1) a0m a6r rfl (dv 5 ?_))
 refine rlB a0m a6r ?_
 refine x3x (id := 2) a0m a6r rfl (dv 6 fun K K' => ?_)
 refine a0h 2 4 10 58 12 rfl rfl rfl rfl rfl ?_
 refine x4x (ι := Nat) (fun i γ1 => [(8, pI (i : Int))]) (fun i γ1 => [(10, ((γ1 10), .row 58 12 (((l.done.take i).drop f).map (a0j true)))), (2, ((0 + 1), .box 44 [pI l.proc, pI l.base.x, pI l.base.y, pI l.base.count, .ref 10 (γ1 10)])), (3, ((γ1 3), .dead)), (4, ((γ1 4), .dead)), (5, ((γ1 5), .dead)), (6, ((γ1 6), .dead)), (7, ((γ1 7), .dead)), (8, ((γ1 8), .dead)), (9, ((γ1 9), .dead))]) (fun i => f ≤ i ∧ (i = f ∨ (i ≤ t ∧ i ≤ l.done.length))) (fun i => l.done.length - i) (q6q [2, 3, 6, 7] rfl) (a0p [0, 1] rfl) f ⟨Nat.le_refl _, .inl rfl⟩ [0, 0, 0, _, _, _, _, _, _, _, _] x6x (HE.row rfl (by rw [List.drop_of_length_le (by rw [List.length_take]; omega)]; rfl) (HE.box rfl rfl (HE.kill rfl (HE.kill rfl (HE.kill rfl (HE.kill rfl (HE.kill rfl (HE.kill rfl (HE.kill rfl HE.nil))))))))) rfl fun i γ1 hi => ?_
 obtain ⟨k1, k2⟩ := hi
 refine dc 6 (fun K K' => aS ?_ ?_)<;>intro h<;>try simp at h
 ·refine dv 6 ?_
  have hfin : (l.done.take i).drop f = (l.done.take t).drop f := c9t k1 k2 (by omega)
  refine dv 5 ?_
  rw [a0q, ← hfin]
  exact ⟨_, _, rfl, .agg rfl (.cl rfl (.cl rfl (.cl rfl (.cl rfl (.ref rfl (Le.ow_map _ (fun _ => rfl) (fun _ => rfl)) .nil))))) .nil⟩
 refine dc 6 (aS ?_ ?_)<;>intro h<;>try simp at h
 ·have hfin : (l.done.take i).drop f = (l.done.take t).drop f := c9t k1 k2 (by omega)
  refine dv 5 ?_
  rw [a0q, ← hfin]
  exact ⟨_, _, rfl, .agg rfl (.cl rfl (.cl rfl (.cl rfl (.cl rfl (.ref rfl (Le.ow_map _ (fun _ => rfl) (fun _ => rfl)) .nil))))) .nil⟩
 obtain ⟨p, hp⟩ := gE l.done i
 have g1 : i < t := by omega
 obtain ⟨hps, hpo⟩ := hb p (List.mem_of_getElem? hp)
 refine dv 9 fun K K' => ?_
 refine x3x (id := 3) a3q c0m rfl (dv 5 ?_)
 refine y8y (out := .agg (y9y p.ev)) rfl z2z rfl rfl ?_
 refine dv 1 ?_
 refine y8y (out := .agg (s1s p.after)) rfl a5s rfl rfl ?_
 refine y1y (id := 4) u3u rfl z2z rfl (dv 2 ?_)
 refine a2c v3v (zs := (p.sends).map y9y) rfl rfl u3u rfl z2z rfl rfl rfl (z9z (fun _ => rfl) _) rfl (by (simp only [a0e, r7r, a0b, a0d, a0u, a2z, b3x, T56]; omega)) (Le.ow_map _ (fun _ => rfl) (fun _ => rfl)) ?_
 refine y1y (id := 6) a1b rfl w9w rfl (dv 2 ?_)
 refine a2c v3v (zs := (p.outs).map q8q) rfl rfl a1b rfl w9w rfl rfl rfl (z9z (fun _ => rfl) _) rfl (by (simp only [a0e, r7r, a0b, a0d, a0u, a2z, b3x, T141]; omega)) (Le.ow_map _ (fun _ => rfl) (fun _ => rfl)) ?_
 refine rlB a3q c0m ?_
 refine y2y (id := 8) a6q rfl a3q rfl rfl rfl rfl rfl rfl ?_
 refine y6y (zs := ((l.done.take i).drop f ++ [p]).map (a0j true)) rfl rfl a6q rfl a3q rfl rfl rfl rfl (by rfl) (z7z _ _ _) (by (simp only [a0e, r7r, a0b, a0d, a0u, a2z, b3x, T58]; omega)) ?_
 refine dv 4 ?_
 refine x8x (b := 1) rfl rfl (by omega) (dv 1 ?_)
 exact ⟨i + 1, ⟨⟨by omega, .inr ⟨by omega, by omega⟩⟩, by omega⟩, [0, 0, 0, _, _, _, _, _, _, _, _], x6x, x6x, (HE.row rfl (by rw [z6z hp, List.drop_append_of_le_length (by rw [List.length_take]; omega)]) (HE.box rfl rfl (HE.kill rfl (HE.kill rfl (HE.kill rfl (HE.kill rfl (HE.kill rfl (HE.kill rfl (HE.kill rfl HE.nil))))))))), x5x, rfl⟩
theorem a6w (c : Bool) (n : Nd) (hl : n.lanes.length ≤ 1000000) (hk : n.kept.length ≤ 1000000) (ho : n.outs.length ≤ 1000000) (hd : ∀ l ∈ n.lanes, lb l) : Meth Tryz.prog 155 3 [] [.agg (u1u c n)] [(0, (0, .dead)), (1, (0, .dead)), (2, (0, .dead))] (.agg [pI n.id, .pv (.bool n.up), pI n.inc, pI n.g, .ref 0 0, q3q true n.kept, r0r true n.outs, pI n.led, pI 0, .ref 1 0, .ref 2 0, pI 0, pI 41]) [(0, (0, .row 44 5 ((n.lanes.map r5r).map (q7q true)))), (1, (0, .row 190 3 ([vi0, vi0, vi0].map (a2b true)))), (2, (0, .row 3 1 ([0, 0, 0].map a3e)))] := by
 refine mX Tryz.f155 [.agg [pI n.id, .pv (.bool n.up), pI n.inc, pI n.g, .ref 0 0, q3q true n.kept, r0r true n.outs, pI n.led, pI 0, .ref 1 0, .ref 2 0, pI 0, pI 41]] 3 13 fun γ => ?_
 refine dv 1 ?_
 refine y0y (id := 3) rfl rfl rfl (x3x (id := 4) u9u q1q rfl (dv 9 ?_))
 refine y1y (id := 5) u3u rfl z2z rfl (dv 2 ?_)
 refine a2c v3v (zs := (n.kept).map y9y) rfl rfl u3u rfl z2z rfl rfl rfl (z9z (fun _ => rfl) _) rfl (by (simp only [a0e, r7r, a0b, a0d, a0u, a2z, b3x, T56]; omega)) (Le.ow_map _ (fun _ => rfl) (fun _ => rfl)) ?_
 refine y1y (id := 7) a1b rfl w9w rfl (dv 2 ?_)
 refine a2c v3v (zs := (n.outs).map q8q) rfl rfl a1b rfl w9w rfl rfl rfl (z9z (fun _ => rfl) _) rfl (by (simp only [a0e, r7r, a0b, a0d, a0u, a2z, b3x, T141]; omega)) (Le.ow_map _ (fun _ => rfl) (fun _ => rfl)) ?_
 refine dv 2 ?_
 refine rlB u9u q1q ?_
 refine x3x (id := 9) u9u q1q rfl (dv 5 fun K K' => ?_)
 refine a0h 9 4 0 44 5 rfl rfl rfl rfl rfl ?_
 refine x4x (ι := Nat) (fun i γ1 => [(4, pI (i : Int))]) (fun i γ1 => [(0, ((γ1 0), .row 44 5 (((n.lanes.take i).map r5r).map (q7q true)))), (9, ((0 + 1), .box 65 [pI n.id, .pv (.bool n.up), pI n.inc, pI n.g, .ref 0 (γ1 0), q3q true n.kept, r0r true n.outs, pI n.led, pI 0, .pv (.slice none 0 0), .pv (.slice none 0 0), pI 0, pI 41])), (10, ((γ1 10), .dead)), (11, ((γ1 11), .dead))]) (fun i => i ≤ n.lanes.length) (fun i => n.lanes.length - i) (q6q [1, 2, 3] rfl) (a0p [1, 2, 3, 4, 5, 6, 7, 8, 12, 13, 14, 15] rfl) 0 (by omega) [_, 0, 0, 0, 0, 0, 0, 0, 0, 0, _, _] x6x (HE.row rfl (by rw [List.take_zero]; rfl) (HE.box rfl rfl (HE.kill rfl (HE.kill rfl HE.nil)))) rfl fun i γ1 hi => ?_
 refine dc 7 (fun K K' => aI ?_ ?_)<;>intro h<;>try simp at h
 ·obtain ⟨a, ha⟩ := gE n.lanes i
  have had := hd a (List.mem_of_getElem? ha)
  refine dv 11 fun K K' => ?_
  refine x0x rfl rfl rfl (a3l c a 0 0 had.1 (by omega) (by omega) had.2) ?_
  refine y2y (id := 10) a7v rfl a0m rfl rfl rfl rfl rfl rfl ?_
  refine y6y (zs := ((n.lanes.take i).map r5r ++ [r5r a]).map (q7q true)) rfl rfl a7v rfl a0m rfl rfl rfl rfl (by rfl) (z7z _ _ _) (by (simp only [a0e, r7r, a0b, a0d, a0u, a2z, b3x, T44]; omega)) ?_
  refine dv 4 ?_
  refine z8z rfl rfl rfl (dv 1 ?_)
  exact ⟨i + 1, ⟨by omega, by omega⟩, [_, 0, 0, 0, 0, 0, 0, 0, 0, 0, _, _], (Cov.cons' (t := 4) rfl (by rw [x9x (by omega) (by omega)]; rfl) Cov.nil), x6x, (HE.row rfl (by simp only [z6z ha, List.map_append, List.map_cons, List.map_nil]) (HE.box rfl rfl (HE.kill rfl (HE.kill rfl HE.nil)))), x5x, rfl⟩
 obtain rfl : i = n.lanes.length := by omega
 refine dv 5 fun K K' => ?_
 refine a0h 9 9 1 190 3 rfl rfl rfl rfl rfl (a0h 9 10 2 3 1 rfl rfl rfl rfl rfl ?_)
 refine x4x (ι := Nat) (fun i γ2 => [(5, pI (i : Int))]) (fun i γ2 => [(1, ((γ2 1), .row 190 3 ((List.range i).map fun _ => b3h))), (2, ((γ2 2), .row 3 1 ((List.range i).map fun _ => a3e 0))), (9, ((0 + 1), .box 65 [pI n.id, .pv (.bool n.up), pI n.inc, pI n.g, .ref 0 (γ1 0), q3q true n.kept, r0r true n.outs, pI n.led, pI 0, .ref 1 (γ2 1), .ref 2 (γ2 2), pI 0, pI 41])), (12, ((γ2 12), .dead)), (13, ((γ2 13), .dead)), (14, ((γ2 14), .dead)), (15, ((γ2 15), .dead))]) (fun i => i ≤ 3) (fun i => 3 - i) (q6q [2, 3] rfl) (a0p [0, 3, 4, 5, 6, 7, 8, 10, 11] rfl) 0 (by omega) [0, _, _, 0, 0, 0, 0, 0, 0, 0, 0, 0, _, _, _, _] x6x x5x rfl fun i γ2 hi => ?_
 refine dc 4 (fun K K' => aS ?_ ?_)<;>intro h<;>try simp at h
 ·obtain rfl : i = 3 := by omega
  rw [List.take_length]
  refine dv 4 ?_
  refine d2b (f := fun _ => b3h) (f' := fun _ => a2b true vi0) (l := List.range 3) 1 rfl (fun _ => .same (.same (.le rfl .nil rfl .nil))) ?_
  refine dv 1 ?_
  exact ⟨[_, _, _], rfl, rfl, x5x⟩
 refine dv 6 fun K K' => ?_
 refine rlB r1r a4s ?_
 refine y2y (id := 12) a9y rfl r1r rfl rfl rfl rfl rfl rfl ?_
 refine y6y (zs := (List.range i).map (fun _ => b3h) ++ [b3h]) rfl rfl a9y rfl r1r rfl rfl rfl rfl (by rfl) rfl (by (simp only [a0e, r7r, a0b, a0d, a0u, a2z, b3x, T190]; omega)) ?_
 refine dv 5 ?_
 refine a9c (id := 14) a0o rfl s3s rfl rfl rfl rfl rfl ?_
 refine y6y (zs := (List.range i).map (fun _ => a3e 0) ++ [a3e 0]) rfl rfl a0o rfl s3s rfl rfl rfl rfl (by rfl) rfl (by (simp only [a0e, r7r, a0b, a0d, a0u, a2z, b3x, T3]; omega)) ?_
 refine dv 4 ?_
 refine z8z rfl rfl rfl (dv 1 ?_)
 exact ⟨i + 1, ⟨by omega, by omega⟩, [0, _, _, 0, 0, 0, 0, 0, 0, 0, 0, 0, _, _, _, _], (Cov.cons' (t := 5) rfl (by rw [x9x (by omega) (by omega)]; rfl) Cov.nil), x6x, (HE.row rfl (by rw [List.range_succ, List.map_append]; rfl) (HE.row rfl (by rw [List.range_succ, List.map_append]; rfl) (HE.box rfl rfl (HE.kill rfl (HE.kill rfl (HE.kill rfl (HE.kill rfl HE.nil))))))), x5x, rfl⟩
end
section
theorem a6k (c : Bool) (l : La) (h : lb l) : a0t Tryz.prog 110 [.agg (q7q c l), .pv (.int .i64 ((0 : Nat) : Int)), .pv (.int .i64 (l.done.length : Int))] (.agg (q7q true l)) := by
 have := a3l c l 0 l.done.length h.1 (by omega) h.1 h.2
 rw [b2q] at this
 exact this
theorem y5y (c : Bool) (n : Nd) (h : nb n) : Meth Tryz.prog 161 3 [] [.agg (u1u c n)] [(0, (0, .dead)), (1, (0, .dead)), (2, (0, .dead))] (.agg [pI n.id, .pv (.bool n.up), pI n.inc, pI n.g, .ref 0 0, q3q true n.kept, r0r true n.outs, pI n.led, pI n.version, .ref 1 0, .ref 2 0, pI n.round, pI n.low]) [(0, (0, .row 44 5 ((n.lanes).map (q7q true)))), (1, (0, .row 190 3 ((n.views).map (a2b true)))), (2, (0, .row 3 1 (n.known.map a3e)))] := by
 refine mX Tryz.f161 [.agg [pI n.id, .pv (.bool n.up), pI n.inc, pI n.g, .ref 0 0, q3q true n.kept, r0r true n.outs, pI n.led, pI n.version, .ref 1 0, .ref 2 0, pI n.round, pI n.low]] 3 10 fun γ => ?_
 obtain ⟨b1, b2, b3, b4, b5, b6, b7⟩ := h
 refine dv 1 ?_
 refine y0y (id := 3) rfl rfl rfl (x3x (id := 4) u9u q1q rfl (dv 2 ?_))
 refine rlM [0, 11, 12] [_, _, _] (a6w c n b1 b2 b3 b4) rfl rfl rfl ?_
 refine x3x (id := 5) u9u q1q rfl (dv 5 fun K K' => ?_)
 refine x4x (ι := Nat) (fun i γ1 => [(4, pI (i : Int))]) (fun i γ1 => [(0, ((γ 0 + 1), .row 44 5 ((n.lanes.take i ++ (n.lanes.drop i).map r5r).map (q7q true))))]) (fun i => i ≤ n.lanes.length) (fun i => n.lanes.length - i) (q6q [1, 2, 3] rfl) (a0p [1, 2, 3, 4, 5, 6, 7, 8, 9, 10, 11, 12] rfl) 0 (by omega) [] x6x (HE.row rfl (by rw [List.take_zero, List.drop_zero]; rfl) HE.nil) rfl fun i γ1 hi => ?_
 refine dc 7 (fun K K' => aI ?_ ?_)<;>intro o<;>try simp at o
 ·obtain ⟨p, hp⟩ := gE n.lanes i
  have hpl := b4 p (List.mem_of_getElem? hp)
  have hAl : ((n.lanes.take i).map (q7q true)).length = i := by rw [List.length_map, List.length_take]; omega
  rw [p8p hp, List.map_cons, List.map_append, List.map_cons]
  refine dv 19 fun K K' => ?_
  refine x0x rfl rfl rfl (a6k c p hpl) (b4g rfl rfl a7v rfl a0m rfl rfl hAl (b1n hAl rfl rfl a0m rfl rfl rfl rfl (s4s rfl) rfl ?_))
  refine dv 2 ?_
  refine z8z rfl rfl rfl (dv 1 ?_)
  exact ⟨i + 1, ⟨by omega, by omega⟩, [], (Cov.cons' (t := 4) rfl (by rw [x9x (by omega) (by omega)]; rfl) Cov.nil), x6x, (HE.row rfl (by simp only [z6z hp, List.map_append, List.append_assoc]; rfl) HE.nil), x5x, rfl⟩
 obtain rfl : i = n.lanes.length := by omega
 rw [List.take_length, List.drop_length, List.map_nil, List.append_nil]
 refine dv 17 ?_
 refine y1y (id := 1) a9y rfl r1r rfl (dv 6 fun K K' => ?_)
 refine x4x (ι := Nat) (fun j γ2 => [(5, pI (j : Int))]) (fun j γ2 => [(1, ((γ2 1), .row 190 3 ((n.views.take j).map (a2b true)))), (5, ((0 + 1), .box 65 [pI n.id, .pv (.bool n.up), pI n.inc, pI n.g, .ref 0 (γ 0 + 1), q3q true n.kept, r0r true n.outs, pI n.led, pI n.version, .ref 1 (γ2 1), .ref 12 (0 + 1), pI n.round, pI n.low])), (6, ((γ2 6), .dead)), (7, ((γ2 7), .dead)), (8, ((γ2 8), .dead)), (9, ((γ2 9), .dead))]) (fun j => j ≤ n.views.length) (fun j => n.views.length - j) (q6q [1, 2, 3] rfl) (a0p [0, 2, 3, 4, 10, 11, 12] rfl) 0 (by omega) [0, _, 0, 0, 0, 0, _, _, _, _] x6x (HE.row rfl (by rw [List.take_zero]; rfl) (HE.box rfl rfl (HE.kill rfl (HE.kill rfl (HE.kill rfl (HE.kill rfl HE.nil)))))) rfl fun j γ2 hi => ?_
 refine dc 7 (fun K K' => aS ?_ ?_)<;>intro o<;>try simp at o
 ·obtain rfl : j = n.views.length := by omega
  rw [List.take_length]
  refine dv 2 ?_
  refine y1y (id := 2) a0o rfl s3s rfl (dv 2 ?_)
  refine w6w (zs := n.known.map a3e) rfl rfl a0o rfl s3s rfl rfl rfl (z9z (fun _ => rfl) _) rfl (by (simp only [a0e, r7r, a0b, a0d, a0u, a2z, b3x, T3]; omega)) ?_
  refine dv 6 ?_
  exact ⟨[_, _, _], rfl, rfl, x5x⟩
 obtain ⟨v, hv⟩ := gE n.views j
 have hve := b6 v (List.mem_of_getElem? hv)
 refine dv 18 fun K K' => ?_
 refine y1y (id := 6) u3u rfl z2z rfl (dv 6 ?_)
 refine a2c v3v (zs := (v.events).map y9y) rfl rfl u3u rfl z2z rfl rfl rfl (z9z (fun _ => rfl) _) rfl (by (simp only [a0e, r7r, a0b, a0d, a0u, a2z, b3x, T56]; omega)) (Le.ow_map _ (fun _ => rfl) (fun _ => rfl)) ?_
 refine rlB r1r a4s ?_
 refine y2y (id := 8) a9y rfl r1r rfl rfl rfl rfl rfl rfl ?_
 refine y6y (zs := (n.views.take j ++ [v]).map (a2b true)) rfl rfl a9y rfl r1r rfl rfl rfl rfl (by rfl) (z7z _ _ _) (by (simp only [a0e, r7r, a0b, a0d, a0u, a2z, b3x, T190]; omega)) ?_
 refine dv 4 ?_
 refine z8z rfl rfl rfl (dv 1 ?_)
 exact ⟨j + 1, ⟨by omega, by omega⟩, [0, _, 0, 0, 0, 0, _, _, _, _], (Cov.cons' (t := 5) rfl (by rw [x9x (by omega) (by omega)]; rfl) Cov.nil), x6x, (HE.row rfl (by rw [z6z hv]) (HE.box rfl rfl (HE.kill rfl (HE.kill rfl (HE.kill rfl (HE.kill rfl HE.nil)))))), x5x, rfl⟩
end
section
theorem c6s (c c' : Bool) (l : La) (s : List Ev) : a0t Tryz.prog 291 [.agg (q7q c l), q3q c' s] (.pv (.bool (kb (b4o l s)))) := by
 refine pX Tryz.f291 [.pv (.bool (kb (b4o l s)))] 1 ?_
 refine dv 1 ?_
 refine y0y (id := 0) rfl rfl rfl (dv 4 fun K K' => ?_)
 refine x0x rfl rfl rfl (a4j ..) (x0x rfl rfl rfl (a4d ..) (dc 1 (aI ?_ ?_)))<;>intro hc2<;>try simp at hc2
 ·try have hX : ¬ a9i okE a2t s 100 = true := by simpa using hc2
  refine dv 3 ?_
  refine x2x rfl ?_ rfl
  exact congrArg (fun b : Bool => [AV.pv (.bool b)]) (a4g (fun h => hX h.1))
 have hA : a9i okE a2t s 100 = true := hc2
 refine dv 5 fun K K' => ?_
 refine u0u 1 rfl fun hlen => ?_
 refine x4x (ι := Nat) (fun i γ1 => [(5, pI (i : Int))]) (fun i γ1 => []) (fun i => i ≤ s.length ∧ c9p s (fun _ e => e.to = l.proc) i) (fun i => s.length - i) (q6q [1, 2] rfl) (u8u 0 rfl HE.nil) 0 ⟨by omega, a1p⟩ [] x6x x5x rfl fun i γ1 hi => ?_
 obtain ⟨h1, h2⟩ := hi
 refine dc 6 (fun K K' => aS ?_ ?_)<;>intro j<;>try simp at j
 ·have hall := a3d h2 (by omega)
  refine dv 4 ?_
  refine x2x rfl ?_ rfl
  exact congrArg (fun b : Bool => [AV.pv (.bool b)]) (e2y ⟨hA, fun e he => by obtain ⟨i, hi⟩ := List.getElem?_of_mem he; exact hall i e hi⟩)
 obtain ⟨e, he⟩ := gE s i
 refine dc 12 (fun K K' => aS ?_ ?_)<;>intro j<;>try simp at j
 ·have hto : e.to = l.proc := by omega
  refine dv 3 ?_
  refine x8x (b := 1) rfl rfl (by omega) (dv 1 ?_)
  exact ⟨i + 1, ⟨⟨by omega, s6s h2 he hto⟩, by omega⟩, [], x6x, x6x, x5x, x5x, rfl⟩
 have hX : ¬ e.to = l.proc := by omega
 refine dv 3 ?_
 refine x2x rfl ?_ rfl
 exact congrArg (fun b : Bool => [AV.pv (.bool b)]) (a4g (fun h => hX (h.2 e (List.mem_of_getElem? he))))
theorem b5e (c c' : Bool) (l : La) (s : List Ev) : a0t Tryz.prog 241 [.agg (q7q c l), q3q c' s] (.tup [.agg (y9y (b3s l s).1), .pv (.bool (b3s l s).2)]) := by
 refine pX Tryz.f241 [.agg (y9y (b3s l s).1), .pv (.bool (b3s l s).2)] 2 ?_
 have hsm := c2s l.done s
 refine dv 1 ?_
 refine y0y (id := 0) rfl rfl rfl (x3x (id := 1) z2z a7w rfl (dv 4 fun K K' => ?_))
 refine x0x rfl rfl rfl (a4k ..) (dc 2 (aS ?_ ?_))<;>intro hg2<;>try simp at hg2
 ·have fX : ¬ (a7r l = true ∧ b4o l s) := fun h => by have := h.1; simp_all
  refine dv 6 ?_
  refine rlB z2z a7w ?_
  refine dv 3 ?_
  (rw [d4u fX]; exact ⟨_, _, rfl, .agg rfl (.cl rfl (.cl rfl (.cl rfl (.cl rfl (.cl rfl (.cl rfl (.cl rfl .nil))))))) (.cl rfl .nil)⟩)
 have fL : a7r l = true := hg2
 refine dv 2 ?_
 refine x0x rfl rfl rfl (c6s ..) (dc 2 (aI ?_ ?_))<;>intro hc3<;>try simp at hc3
 ·have fX : ¬ (a7r l = true ∧ b4o l s) := fun h => a1h (by simpa using hc3) h.2
  refine dv 1 ?_
  refine rlB z2z a7w ?_
  refine dv 3 ?_
  (rw [d4u fX]; exact ⟨_, _, rfl, .agg rfl (.cl rfl (.cl rfl (.cl rfl (.cl rfl (.cl rfl (.cl rfl (.cl rfl .nil))))))) (.cl rfl .nil)⟩)
 have fF : a7r l = true ∧ b4o l s := ⟨fL, a1d.1 (by simpa using hc3)⟩
 refine dv 4 ?_
 refine x0x rfl rfl rfl (b0v ..) (dv 2 fun K K' => ?_)
 refine u0u 1 rfl fun hlen => ?_
 refine dc 7 (aS ?_ ?_)<;>intro j<;>try simp at j
 ·refine dv 6 ?_
  refine rlB z2z a7w ?_
  refine dv 3 ?_
  (rw [c4o fF, f2h (by omega)]; exact ⟨_, _, rfl, .agg rfl (.cl rfl (.cl rfl (.cl rfl (.cl rfl (.cl rfl (.cl rfl (.cl rfl .nil))))))) (.cl rfl .nil)⟩)
 refine dc 5 (aI ?_ ?_)<;>intro j<;>try simp at j
 ·refine dv 1 ?_
  refine rlB z2z a7w ?_
  refine dv 3 ?_
  (rw [c4o fF, f2i (by omega)]; exact ⟨_, _, rfl, .agg rfl (.cl rfl (.cl rfl (.cl rfl (.cl rfl (.cl rfl (.cl rfl (.cl rfl .nil))))))) (.cl rfl .nil)⟩)
 have hlt : same l.done s < s.length := by omega
 obtain ⟨e, he⟩ : ∃ e, s[same l.done s]? = some e := ⟨_, List.getElem?_eq_getElem hlt⟩
 refine dv 5 ?_
 refine v4v (out := .agg (y9y e)) rfl z2z rfl ?_
 refine dv 3 ?_
 (rw [c4o fF, f2j (by omega) he]; exact ⟨_, _, rfl, .agg rfl (.cl rfl (.cl rfl (.cl rfl (.cl rfl (.cl rfl (.cl rfl (.cl rfl .nil))))))) (.cl rfl .nil)⟩)
end
section
theorem a4x (c : Bool) (l : List Ou) (hl : l.length ≤ 1000000) : a0t Tryz.prog 112 [r0r c l] (r0r true (a1l l)) := by
 refine pX Tryz.f112 [r0r true (a1l l)] 6 ?_
 refine dv 3 ?_
 refine y1y (id := 0) a1b rfl w9w rfl (dv 5 fun K K' => ?_)
 refine p7p (l := ([] : List Ou)) (f := q8q) 3 rfl rfl (fun _ => rfl) ?_
 refine x4x (ι := Nat) (fun i γ1 => [(3, r0r true (a1l (l.take i))), (4, pI (i : Int))]) (fun i γ1 => [(1, ((γ1 1), .dead)), (2, ((γ1 2), .dead)), (3, ((γ1 3), .dead)), (4, ((γ1 4), .dead)), (5, ((γ1 5), .dead))]) (fun i => i ≤ l.length) (fun i => l.length - i) (x7x 0 rfl Cov.nil) (u8u 0 rfl HE.nil) 0 (by omega) [0, _, _, _, _, _] (Cov.cons' (t := 3) rfl (by rw [List.take_zero]; rfl) (x7x 4 rfl Cov.nil)) x5x rfl fun i γ1 hi => ?_
 refine dc 6 (fun K K' => aS ?_ ?_)<;>intro h<;>try simp at h
 ·obtain rfl : i = l.length := by omega
  refine dv 5 ?_
  refine x2x rfl ?_ rfl
  exact congrArg (fun l : List Ou => [r0r true l]) (by rw [List.take_length])
 obtain ⟨x, hx⟩ := gE l i
 have hol : (a1l (l.take i)).length ≤ 1000000 := by rw [b5s, List.length_take]; omega
 refine dv 7 fun K K' => ?_
 refine p9p (ι := Nat) (fun k γ2 => [(5, pI (k : Int))]) (fun k γ2 => []) (fun k => k ≤ (a1l (l.take i)).length ∧ (∀ (j : Nat) y, k ≤ j → (a1l (l.take i))[j]? = some y → b3q x y = true) ∧ (∀ y, 0 < k → (a1l (l.take i))[k - 1]? = some y → b3q x y = false)) (q6q [0, 3, 4] rfl) (a0p [0, 1, 2, 3, 4, 5] rfl) ?_ fun k γ2 hi => ?_
 ·refine dv 1 ?_
  refine x4x (ι := Nat) (fun k γ3 => [(5, pI (k : Int))]) (fun k γ3 => []) (fun k => k ≤ (a1l (l.take i)).length ∧ (∀ (j : Nat) y, k ≤ j → (a1l (l.take i))[j]? = some y → b3q x y = true)) (fun k => k) (q6q [0, 3, 4] rfl) (a0p [0, 1, 2, 3, 4, 5] rfl) (a1l (l.take i)).length ⟨Nat.le_refl _, fun j y hj hy => by have := (List.getElem?_eq_some_iff.1 hy).1; omega⟩ [] x6x x5x rfl fun k γ3 hi => ?_
  obtain ⟨k1, k2⟩ := hi
  refine dc 5 (fun K K' => aS ?_ ?_)<;>intro h<;>try simp at h
  ·have k0 : k = 0 := by omega
   refine dv 12 ?_
   exact ⟨k, ⟨k1, k2, fun y2 h0 h2 => by omega⟩, [], x6x, x6x, x5x, x5x, rfl⟩
  have k0 : 0 < k := by omega
  obtain ⟨y, hy⟩ := gE (a1l (l.take i)) (k - 1)
  refine dv 6 ?_
  refine p6p (b := 1) rfl rfl (by omega) (by omega) (dv 2 ?_)
  refine x0x rfl rfl rfl (b6p ..) (dc 1 (aS ?_ ?_))<;>intro hc7<;>try simp at hc7
  ·try have hlt := hc7
   refine dv 1 ?_
   exact ⟨k, ⟨k1, k2, fun y2 h0 h2 => by (rw [hy] at h2; cases h2; exact hlt)⟩, [], x6x, x6x, x5x, x5x, rfl⟩
  try have hlt := hc7
  refine dv 4 ?_
  refine p6p (b := 1) rfl rfl (by omega) (by omega) (dv 1 ?_)
  exact ⟨k - 1, ⟨⟨by omega, fun j y2 hj hy2 => by by_cases hjk : j = k - 1; (subst hjk; rw [hy] at hy2; cases hy2; exact hlt); exact k2 j y2 (by omega) hy2⟩, by omega⟩, [], x6x, x6x, x5x, x5x, rfl⟩
 ·try dsimp only [b1e, b1f]
  obtain ⟨c1, c2, c3⟩ := hi
  have hin := (d4w hx).trans (f2k f5l (e3i _) c2 c3 c1)
  refine dv 1 ?_
  refine y1y (id := 1) a1b rfl w9w rfl (dv 2 ?_)
  refine c2o rfl a1b rfl w9w rfl rfl rfl (by omega) (by omega) (by omega) ?_
  refine w6w (zs := ((a1l (l.take i)).take k).map q8q) rfl rfl a1b rfl w9w rfl rfl rfl (z9z (fun _ => rfl) _) (by simp) (by (simp only [a0e, r7r, a0b, a0d, a0u, b3x, T141]; omega)) ?_
  refine dv 4 ?_
  refine y2y (id := 3) a1b rfl w9w rfl rfl rfl rfl rfl rfl ?_
  refine y6y (zs := ((a1l (l.take i)).take k ++ [x]).map q8q) rfl rfl a1b rfl w9w rfl rfl rfl rfl (by rfl) (z7z _ _ _) (by (simp only [a0e, r7r, a0b, a0d, a0u, b3x, T141]; omega)) ?_
  refine dv 2 ?_
  refine c2o rfl a1b rfl w9w rfl rfl rfl (by omega) (by (rw [List.length_map]; omega)) (by (rw [List.length_map]; omega)) ?_
  refine a2c v3v (zs := ((a1l (l.take i)).take k ++ x :: (a1l (l.take i)).drop k).map q8q) rfl rfl a1b rfl w9w rfl rfl rfl (z9z (fun _ => rfl) _) (by simp) (by (simp only [a0e, r7r, a0b, a0d, a0u, b3x, T141]; omega)) (Le.ow_map _ (fun _ => rfl) (fun _ => rfl)) ?_
  refine dv 3 ?_
  refine x8x (b := 1) rfl rfl (by omega) (dv 1 ?_)
  exact ⟨i + 1, ⟨by omega, by omega⟩, [0, _, _, _, _, _], (Cov.cons' (t := 3) rfl (by rw [hin]; rfl) (x7x 4 rfl Cov.nil)), x6x, x5x, x5x, rfl⟩
end
section
theorem c6t (c : Bool) (l : La) : a0t Tryz.prog 31 [.agg (q7q c l)] (.agg (s1s (f0n l))) := by
 refine pX Tryz.f31 [.agg (s1s (f0n l))] 2 ?_
 refine dv 1 ?_
 refine y0y (id := 0) rfl rfl rfl (x3x (id := 1) a5s d1l rfl (dv 3 fun K K' => ?_))
 refine x0x rfl rfl rfl (a4k ..) (dc 1 (aI ?_ ?_))<;>intro hc2<;>try simp at hc2
 ·have fX : ¬ a7r l = true := by simpa using hc2
  refine dv 1 ?_
  refine rlB a5s d1l ?_
  refine dv 2 ?_
  (rw [f6k fX]; exact b0r rfl rfl rfl rfl)
 have fL : a7r l = true := hc2
 have hl1 := (a2n fL).1
 refine dc 7 (fun K K' => aI ?_ ?_)<;>intro hc4<;>try simp at hc4
 ·have h0 : l.done.length = 0 := by (rw [hc4]; rfl)
  refine dv 2 ?_
  refine y8y (out := .agg (s1s l.base)) rfl a5s rfl rfl ?_
  refine dv 2 ?_
  (rw [f6l fL h0]; exact b0r rfl rfl rfl rfl)
 have h1 : 0 < l.done.length := List.length_pos_iff.2 hc4
 obtain ⟨p, hp⟩ := gE l.done (l.done.length - 1)
 refine dv 7 ?_
 refine p6p (b := 1) rfl rfl (by omega) (by omega) (dv 2 ?_)
 refine v4v (out := .agg (s1s p.after)) rfl a5s rfl ?_
 refine dv 2 ?_
 (rw [f6m fL hp]; exact b0r rfl rfl rfl rfl)
theorem b3j (c : Bool) (l : La) (f t : Nat) (hlen : l.done.length ≤ 1000000) (hf : f ≤ 1000000) (ht : t ≤ 1000000) (hb : ∀ p ∈ l.done, p.sends.length ≤ 1000000 ∧ p.outs.length ≤ 1000000) : Meth Tryz.prog 110 1 [] [.agg (q7q c l), .pv (.int .i64 (f : Int)), .pv (.int .i64 (t : Int))] [(0, (0, .dead))] (.agg [pI l.proc, pI l.base.x, pI l.base.y, pI l.base.count, .ref 0 0]) [(0, (0, .row 58 12 (((a0q l f t).done).map (a0j true))))] := by
 refine mX Tryz.f110 [.agg [pI l.proc, pI l.base.x, pI l.base.y, pI l.base.count, .ref 0 0]] 1 10 fun γ => ?_
 refine dv 1 ?_
 refine y0y (id := 1) rfl rfl rfl (x3x (id := 2) a0m a6r rfl (dv 5 ?_))
 refine rlB a0m a6r ?_
 refine x3x (id := 3) a0m a6r rfl (dv 6 fun K K' => ?_)
 refine a0h 3 4 0 58 12 rfl rfl rfl rfl rfl ?_
 refine x4x (ι := Nat) (fun i γ1 => [(8, pI (i : Int))]) (fun i γ1 => [(0, ((γ1 0), .row 58 12 (((l.done.take i).drop f).map (a0j true)))), (3, ((0 + 1), .box 44 [pI l.proc, pI l.base.x, pI l.base.y, pI l.base.count, .ref 0 (γ1 0)])), (4, ((γ1 4), .dead)), (5, ((γ1 5), .dead)), (6, ((γ1 6), .dead)), (7, ((γ1 7), .dead)), (8, ((γ1 8), .dead)), (9, ((γ1 9), .dead)), (10, ((γ1 10), .dead))]) (fun i => f ≤ i ∧ (i = f ∨ (i ≤ t ∧ i ≤ l.done.length))) (fun i => l.done.length - i) (q6q [2, 3, 6, 7] rfl) (a0p [1, 2] rfl) f ⟨Nat.le_refl _, .inl rfl⟩ [_, 0, 0, 0, _, _, _, _, _, _, _] x6x (HE.row rfl (by rw [List.drop_of_length_le (by rw [List.length_take]; omega)]; rfl) (HE.box rfl rfl (HE.kill rfl (HE.kill rfl (HE.kill rfl (HE.kill rfl (HE.kill rfl (HE.kill rfl (HE.kill rfl HE.nil))))))))) rfl fun i γ1 hi => ?_
 obtain ⟨k1, k2⟩ := hi
 refine dc 6 (fun K K' => aS ?_ ?_)<;>intro j<;>try simp at j
 ·refine dv 6 ?_
  have hfin : (l.done.take i).drop f = (l.done.take t).drop f := c9t k1 k2 (by omega)
  refine dv 5 ?_
  exact ⟨[_], rfl, rfl, HE.row rfl (by rw [hfin]; rfl) HE.nil⟩
 refine dc 6 (aS ?_ ?_)<;>intro j<;>try simp at j
 ·have hfin : (l.done.take i).drop f = (l.done.take t).drop f := c9t k1 k2 (by omega)
  refine dv 5 ?_
  exact ⟨[_], rfl, rfl, HE.row rfl (by rw [hfin]; rfl) HE.nil⟩
 obtain ⟨p, hp⟩ := gE l.done i
 have g1 : i < t := by omega
 obtain ⟨hps, hpo⟩ := hb p (List.mem_of_getElem? hp)
 refine dv 9 fun K K' => ?_
 refine x3x (id := 4) a3q c0m rfl (dv 5 ?_)
 refine y8y (out := .agg (y9y p.ev)) rfl z2z rfl rfl ?_
 refine dv 1 ?_
 refine y8y (out := .agg (s1s p.after)) rfl a5s rfl rfl ?_
 refine y1y (id := 5) u3u rfl z2z rfl (dv 2 ?_)
 refine a2c v3v (zs := (p.sends).map y9y) rfl rfl u3u rfl z2z rfl rfl rfl (z9z (fun _ => rfl) _) rfl (by (simp only [a0e, r7r, a0b, a0d, a0u, a2z, b3x, T56]; omega)) (Le.ow_map _ (fun _ => rfl) (fun _ => rfl)) ?_
 refine y1y (id := 7) a1b rfl w9w rfl (dv 2 ?_)
 refine a2c v3v (zs := (p.outs).map q8q) rfl rfl a1b rfl w9w rfl rfl rfl (z9z (fun _ => rfl) _) rfl (by (simp only [a0e, r7r, a0b, a0d, a0u, a2z, b3x, T141]; omega)) (Le.ow_map _ (fun _ => rfl) (fun _ => rfl)) ?_
 refine rlB a3q c0m ?_
 refine y2y (id := 9) a6q rfl a3q rfl rfl rfl rfl rfl rfl ?_
 refine y6y (zs := ((l.done.take i).drop f ++ [p]).map (a0j true)) rfl rfl a6q rfl a3q rfl rfl rfl rfl (by rfl) (z7z _ _ _) (by (simp only [a0e, r7r, a0b, a0d, a0u, a2z, b3x, T58]; omega)) ?_
 refine dv 4 ?_
 refine x8x (b := 1) rfl rfl (by omega) (dv 1 ?_)
 exact ⟨i + 1, ⟨⟨by omega, .inr ⟨by omega, by omega⟩⟩, by omega⟩, [_, 0, 0, 0, _, _, _, _, _, _, _], x6x, x6x, (HE.row rfl (by rw [z6z hp, List.drop_append_of_le_length (by rw [List.length_take]; omega)]) (HE.box rfl rfl (HE.kill rfl (HE.kill rfl (HE.kill rfl (HE.kill rfl (HE.kill rfl (HE.kill rfl (HE.kill rfl HE.nil))))))))), x5x, rfl⟩
theorem c5l (a : Ap) (l : La) (s : List Ev) (hA : e4q a) (hL : a7r l = true) : MethE Tryz.prog 328 0 [.agg (b9m true a), .agg (q7q true l), q3q true s] [] (ι := La × Bool) (fun S' => S'.2 = true → ∃ p, S'.1 = a2y l p ∧ l.done.length < 100 ∧ paB p) (fun S' => []) (fun S' => .tup [.agg (q7q true S'.1), .pv (.bool (S'.2))]) (fun S' => []) := by
 refine mE (ι := La × Bool) Tryz.f328 (fun S' => [.agg (q7q true S'.1), .pv (.bool (S'.2))]) 0 10 fun γ => ?_
 have hb : ∀ r ∈ a.rules, r.ops.length ≤ 1048576 := fun r hr => by obtain ⟨i, hi⟩ := List.getElem?_of_mem hr; have := (hA.2 i r hi).2.1.2.1; omega
 have hlb := f2c hL
 refine dv 1 ?_
 refine y0y (id := 0) rfl rfl rfl (y0y (id := 1) rfl rfl rfl (x3x (id := 2) a0m a6r rfl (dv 4 ?_)))
 refine x0x rfl rfl rfl (b5e true true l s) (dv 3 ?_)
 refine x3x (id := 3) z2z a7w rfl (dc 7 (fun K K' => aS ?_ ?_))<;>intro hg2<;>try simp at hg2
 ·refine dv 11 fun K K' => ?_
  refine x0x rfl rfl rfl (a4k ..) (dc 1 (aI ?_ ?_))<;>intro hc8<;>try simp at hc8
  ·exact absurd hL (by simpa using hc8)
  refine dv 6 ?_
  refine x0x rfl rfl rfl (a6k true l hlb) (dv 2 ?_)
  skip
  refine dv 1 ?_
  exact ⟨(l, false), (by intro h; simp at h), [], rfl, rfl, x5x⟩
 have hok : (b3s l s).2 = true := hg2
 refine dv 1 ?_
 refine rlB a5z b6e ?_
 refine dv 0 ?_
 refine rlB a5z b6e ?_
 refine dv 0 ?_
 refine rlB a5z b6e ?_
 refine dv 0 ?_
 refine s8s (id := 4) c8t rfl a5z rfl rfl rfl rfl (.val rfl rfl (.val rfl rfl (.val rfl rfl (.val rfl rfl .nil)))) rfl (s0s rfl) (s0s rfl) (s0s rfl) rfl rfl ?_
 refine dv 0 ?_
 refine b7h rfl rfl rfl (.ref rfl (e5q a) .nil) (b0j false (f4h a) (by intro x hx; simp only [f4h, List.mem_cons, List.not_mem_nil, or_false] at hx; rcases hx with rfl | rfl | rfl | rfl <;> first | exact hb | (intro r hr; cases hr))) (.pv _) ?_
 refine dc 2 (aI ?_ ?_)<;>intro j<;>try simp at j
 ·refine dv 3 fun K K' => ?_
  refine x0x rfl rfl rfl (a4k ..) (dc 1 (aI ?_ ?_))<;>intro hc5<;>try simp at hc5
  ·exact absurd hL (by simpa using hc5)
  refine dv 6 ?_
  refine x0x rfl rfl rfl (a6k true l hlb) (dv 2 ?_)
  skip
  refine dv 1 ?_
  exact ⟨(l, false), (by intro h; simp at h), [], rfl, rfl, x5x⟩
 have hroom := e5p hok
 refine dv 1 ?_
 refine d5h 4 (b6j v3v 0 4 rfl rfl ?_)
 refine dv 2 ?_
 refine x0x rfl rfl rfl (c6t true l) (dv 1 ?_)
 refine b6j v3v 9 1 rfl rfl ?_
 refine x3x (id := 5) a5s d1l rfl (b7r c2b (by rfl) [] [] (d0m a (f0n l) (b3s l s).1 hb) rfl rfl rfl rfl (by decide) rfl rfl (by repeat (exact InH.nil)) (fun _ => (by (simp only [pI, a2f, a2g, c0d, gl, nx, a6z, Nat.beq]; rfl))) (fun _ => (by (simp only [pI, a2f, a2g, c0d, gl, nx, a6z, Nat.beq]; rfl))) ⟨⟨0, 0, 0⟩, [], []⟩ ⟨Nat.zero_le _, Nat.zero_le _, fun q h => by cases h⟩ fun r hr => ?_)
 obtain ⟨r1, r2, r3⟩ := hr
 refine b6k v3v 5 4 rfl rfl ?_
 refine dv 4 ?_
 refine b6k v3v 10 3 rfl rfl ?_
 refine dv 3 ?_
 refine c5e (by kernel_rfl) ?_
 refine dv 5 ?_
 refine rlM [9] [_] (b3j true l 0 l.done.length hlb.1 (by omega) hlb.1 hlb.2) rfl rfl rfl ?_
 refine x3x (id := 6) a0m a6r rfl (dv 1 ?_)
 rw [b2q]
 refine dv 6 ?_
 refine x0x rfl rfl rfl (a1y true r.sends (by omega)) ?_
 refine dv 1 ?_
 refine x0x rfl rfl rfl (a4x true r.outs (by omega)) ?_
 refine rlB a3q c0m ?_
 refine y2y (id := 7) a6q rfl a3q rfl rfl rfl rfl rfl rfl ?_
 refine y6y (zs := (l.done ++ [(⟨(b3s l s).1, r.s, z4z r.sends, a1l r.outs⟩ : Pa)]).map (a0j true)) rfl rfl a6q rfl a3q rfl rfl rfl rfl (by rfl) (z7z (a0j true) l.done (⟨(b3s l s).1, r.s, z4z r.sends, a1l r.outs⟩ : Pa)) (by (simp only [a0e, r7r, a0b, a0d, a0u, a2z, b3x, T58]; omega)) ?_
 refine dv 6 ?_
 refine v9v (b := a6f true (l.done ++ [(⟨(b3s l s).1, r.s, z4z r.sends, a1l r.outs⟩ : Pa)])) 2 4 rfl rfl rfl (.ref rfl (Le.ow_map _ (fun _ => rfl) (fun _ => rfl)) .nil) rfl rfl rfl rfl ?_
 refine dv 1 ?_
 exact ⟨(a2y l (⟨(b3s l s).1, r.s, z4z r.sends, a1l r.outs⟩ : Pa), true), (fun _ => ⟨(⟨(b3s l s).1, r.s, z4z r.sends, a1l r.outs⟩ : Pa), rfl, hroom, f3t r1 r2 r3⟩), [], rfl, rfl, x5x⟩
theorem c6u (n : Nd) (q : Int) (hl4 : n.lanes.length ≤ 1000000) : MethE Tryz.prog 327 0 [.agg (u1u true n), .pv (.int .i64 q)] [] (ι := Int) (fun S' => S' = -1 ∨ ∃ (i : Nat) (l : La), S' = (i : Int) ∧ n.lanes[i]? = some l ∧ l.proc = q) (fun S' => []) (fun S' => .pv (.int .i64 S')) (fun S' => []) := by
 refine mE (ι := Int) Tryz.f327 (fun S' => [.pv (.int .i64 S')]) 0 1 fun γ => ?_
 refine dv 1 ?_
 refine y0y (id := 0) rfl rfl rfl (dv 5 fun K K' => ?_)
 refine x4x (ι := Nat) (fun i γ1 => [(5, pI (i : Int))]) (fun i γ1 => []) (fun i => i ≤ n.lanes.length) (fun i => n.lanes.length - i) (q6q [1, 2] rfl) (u8u 0 rfl HE.nil) 0 (by omega) [] x6x x5x rfl fun i γ1 hi => ?_
 refine dc 7 (fun K K' => aS ?_ ?_)<;>intro j<;>try simp at j
 ·refine dv 4 ?_
  exact ⟨-1, .inl rfl, [], rfl, rfl, x5x⟩
 obtain ⟨l, hl⟩ := gE n.lanes i
 refine dc 12 (fun K K' => aI ?_ ?_)<;>intro hc5<;>try simp at hc5
 ·have hq : l.proc = q := hc5
  refine dv 4 ?_
  exact ⟨(i : Int), .inr ⟨i, l, rfl, hl, hq⟩, [], rfl, rfl, x5x⟩
 refine dv 3 ?_
 refine x8x (b := 1) rfl rfl (by omega) (dv 1 ?_)
 exact ⟨i + 1, ⟨by omega, by omega⟩, [], x6x, x6x, x5x, x5x, rfl⟩
end
section
theorem b5f (id : Int) : a0t Tryz.prog 147 [.pv (.int .i64 id)] (.row (.rd true) 44 5 ((q2q id 4).map fun p => q7q true (b4j p))) := by
 refine pX Tryz.f147 [.row (.rd true) 44 5 ((q2q id 4).map fun p => q7q true (b4j p))] 3 ?_
 have hpl := fun k => a6e id k
 refine dv 3 ?_
 refine y1y (id := 0) a7v rfl a0m rfl (dv 5 fun K K' => ?_)
 refine x4x (ι := Nat) (fun i γ1 => [(3, .ref 0 (γ1 0)), (4, pI (i : Int))]) (fun i γ1 => [(0, ((γ1 0), .row 44 5 ((q2q id i).map e3y))), (1, ((γ1 1), .dead)), (2, ((γ1 2), .dead))]) (fun i => i ≤ 4) (fun i => 4 - i) (x7x 0 rfl Cov.nil) HE.nil 0 (by omega) [_, _, _] x6x x5x rfl fun i γ1 hi => ?_
 refine dc 4 (fun K K' => aS ?_ ?_)<;>intro h<;>try simp at h
 ·refine dv 5 ?_
  refine e6v rfl rfl e3z ?_
  have : i = 4 := by omega
  rw [this]
 refine dv 5 fun K K' => ?_
 refine x0x rfl rfl rfl (a0s ..) (dc 2 (aS ?_ ?_))<;>intro h<;>try simp at h
 ·refine dv 3 ?_
  refine z8z rfl rfl rfl (dv 1 ?_)
  exact ⟨i + 1, ⟨by omega, by omega⟩, [_, _, _], (x7x 3 rfl (Cov.cons' (t := 4) rfl (by rw [x9x (by omega) (by omega)]; rfl) Cov.nil)), x6x, (HE.row rfl (by simp only [a8x]; rw [if_neg (by assumption)]) (HE.kill rfl (HE.kill rfl HE.nil))), x5x, rfl⟩
 refine dv 3 ?_
 refine rlB a0m a6r ?_
 refine y2y (id := 1) a7v rfl a0m rfl rfl rfl rfl rfl rfl ?_
 have := hpl i
 refine y6y (zs := (q2q id i ++ [(i : Int)]).map e3y) rfl rfl a7v rfl a0m rfl rfl rfl rfl (by rfl) (z7z _ _ _) (by (simp only [a0e, r7r, a0b, a0d, a0u, a2z, T44]; omega)) ?_
 refine dv 3 ?_
 refine z8z rfl rfl rfl (dv 1 ?_)
 exact ⟨i + 1, ⟨by omega, by omega⟩, [_, _, _], (x7x 3 rfl (Cov.cons' (t := 4) rfl (by rw [x9x (by omega) (by omega)]; rfl) Cov.nil)), x6x, (HE.row rfl (by simp only [a8x]; rw [if_pos (by assumption)]) (HE.kill rfl (HE.kill rfl HE.nil))), x5x, rfl⟩
theorem b7w (c : Bool) (l : La) : a0t Tryz.prog 110 [.agg (q7q c l), .pv (.int .i64 0), .pv (.int .i64 0)] (.agg (q7q true (r5r l))) := by
 refine pX Tryz.f110 [.agg (q7q true (r5r l))] 10 ?_
 refine dv 1 ?_
 refine y0y (id := 0) rfl rfl rfl (x3x (id := 1) a0m a6r rfl (dv 5 ?_))
 refine rlB a0m a6r ?_
 refine x3x (id := 2) a0m a6r rfl (dv 6 fun K K' => ?_)
 refine x4x (ι := Nat) (fun i γ1 => [(8, pI 0)]) (fun i γ1 => [(3, ((γ1 3), .dead)), (4, ((γ1 4), .dead)), (5, ((γ1 5), .dead)), (6, ((γ1 6), .dead)), (7, ((γ1 7), .dead)), (8, ((γ1 8), .dead)), (9, ((γ1 9), .dead))]) (fun i => True) (fun i => 0) (q6q [2, 3, 6, 7] rfl) (a0p [0, 1, 2] rfl) 0 trivial [0, 0, 0, _, _, _, _, _, _, _] x6x x5x rfl fun i γ1 hi => ?_
 refine dv 6 fun K K' => ?_
 refine d8t rfl rfl (fun hg3 => ?_) (fun hg3 => ?_)
 ·simp at hg3
 try simp at hg3
 refine dv 11 ?_
 exact ⟨_, _, rfl, .agg rfl (.cl rfl (.cl rfl (.cl rfl (.cl rfl (.le rfl .nil .nil))))) .nil⟩
theorem c5m (c : Bool) (n : Nd) (hl : n.lanes.length ≤ 1000000000) (hk : n.kept.length ≤ 1000000000) (ho : n.outs.length ≤ 1000000000) : a0t Tryz.prog 155 [.agg (u1u c n)] (.agg (u1u true (a2m n))) := by
 refine pX Tryz.f155 [.agg (u1u true (a2m n))] 16 ?_
 refine dv 1 ?_
 refine y0y (id := 0) rfl rfl rfl (x3x (id := 1) u9u q1q rfl (dv 9 ?_))
 refine y1y (id := 2) u3u rfl z2z rfl (dv 2 ?_)
 refine w6w (zs := n.kept.map y9y) rfl rfl u3u rfl z2z rfl rfl rfl (z9z (fun _ => rfl) _) rfl (by (simp only [a0e, r7r, a0b, a0d, a0u, a2z, T56]; omega)) ?_
 refine y1y (id := 4) a1b rfl w9w rfl (dv 2 ?_)
 refine w6w (zs := n.outs.map q8q) rfl rfl a1b rfl w9w rfl rfl rfl (z9z (fun _ => rfl) _) rfl (by (simp only [a0e, r7r, a0b, a0d, a0u, a2z, T141]; omega)) ?_
 refine dv 2 ?_
 refine rlB u9u q1q ?_
 refine x3x (id := 6) u9u q1q rfl (dv 5 fun K K' => ?_)
 refine a0h 6 4 13 44 5 rfl rfl rfl rfl rfl ?_
 refine x4x (ι := Nat) (fun i γ1 => [(4, pI (i : Int))]) (fun i γ1 => [(13, ((γ1 13), .row 44 5 (((n.lanes.take i).map r5r).map (q7q true)))), (6, ((0 + 1), .box 65 [pI n.id, .pv (.bool n.up), pI n.inc, pI n.g, .ref 13 (γ1 13), .ref 2 2, .ref 4 2, pI n.led, pI 0, .pv (.slice none 0 0), .pv (.slice none 0 0), pI 0, pI 41])), (7, ((γ1 7), .dead)), (8, ((γ1 8), .dead))]) (fun i => i ≤ n.lanes.length) (fun i => n.lanes.length - i) (q6q [1, 2, 3] rfl) (a0p [0, 1, 2, 3, 4, 5, 9, 10, 11, 12, 14, 15] rfl) 0 (by omega) [0, 0, 0, 0, 0, 0, 0, _, _, 0, 0, 0, 0, _] x6x (HE.row rfl (by rw [List.take_zero]; rfl) (HE.box rfl rfl (HE.kill rfl (HE.kill rfl HE.nil)))) rfl fun i γ1 hi => ?_
 refine dc 7 (fun K K' => aI ?_ ?_)<;>intro h<;>try simp at h
 ·refine dv 9 fun K K' => ?_
  obtain ⟨a, ha⟩ := gE n.lanes i
  refine dv 2 ?_
  refine x0x rfl rfl rfl (b7w c a) (y2y (id := 7) a7v rfl a0m rfl rfl rfl rfl rfl rfl ?_)
  refine y6y (zs := ((n.lanes.take i).map r5r ++ [r5r a]).map (q7q true)) rfl rfl a7v rfl a0m rfl rfl rfl rfl (by rfl) (z7z _ _ _) (by (simp only [a0e, r7r, a0b, a0d, a0u, a2z, T44]; omega)) ?_
  refine dv 4 ?_
  refine z8z rfl rfl rfl (dv 1 ?_)
  exact ⟨i + 1, ⟨by omega, by omega⟩, [0, 0, 0, 0, 0, 0, 0, _, _, 0, 0, 0, 0, _], (Cov.cons' (t := 4) rfl (by rw [x9x (by omega) (by omega)]; rfl) Cov.nil), x6x, (HE.row rfl (by simp only [z6z ha, List.map_append, List.map_cons, List.map_nil]) (HE.box rfl rfl (HE.kill rfl (HE.kill rfl HE.nil)))), x5x, rfl⟩
 obtain rfl : i = n.lanes.length := by omega
 refine dv 5 fun K K' => ?_
 refine a0h 6 9 14 190 3 rfl rfl rfl rfl rfl (a0h 6 10 15 3 1 rfl rfl rfl rfl rfl ?_)
 refine x4x (ι := Nat) (fun i γ2 => [(5, pI (i : Int))]) (fun i γ2 => [(14, ((γ2 14), .row 190 3 ((List.range i).map fun _ => b3h))), (15, ((γ2 15), .row 3 1 ((List.range i).map fun _ => a3e 0))), (6, ((0 + 1), .box 65 [pI n.id, .pv (.bool n.up), pI n.inc, pI n.g, .ref 13 (γ1 13), .ref 2 2, .ref 4 2, pI n.led, pI 0, .ref 14 (γ2 14), .ref 15 (γ2 15), pI 0, pI 41])), (9, ((γ2 9), .dead)), (10, ((γ2 10), .dead)), (11, ((γ2 11), .dead)), (12, ((γ2 12), .dead))]) (fun i => i ≤ 3) (fun i => 3 - i) (q6q [2, 3] rfl) (a0p [0, 1, 2, 3, 4, 5, 7, 8, 13] rfl) 0 (by omega) [0, 0, 0, 0, 0, 0, 0, 0, 0, _, _, _, _, 0, _, _] x6x x5x rfl fun i γ2 hi => ?_
 refine dc 4 (fun K K' => aS ?_ ?_)<;>intro h<;>try simp at h
 ·obtain rfl : i = 3 := by omega
  rw [List.take_length]
  refine dv 5 ?_
  exact ⟨_, _, rfl, .agg rfl (.cl rfl (.cl rfl (.cl rfl (.cl rfl (.ref rfl (Le.ow_map _ (fun _ => rfl) (fun _ => rfl)) (.ref rfl (Le.ow_map _ (fun _ => rfl) (fun _ => rfl)) (.ref rfl (Le.ow_map _ (fun _ => rfl) (fun _ => rfl)) (.cl rfl (.cl rfl (.ref rfl (Le.ow_map2 (f := fun _ => b3h) (f' := fun _ => a2b true vi0) (List.range 3) (fun _ => rfl) (fun _ => .cons (.cl rfl) (.cons (.cl rfl) (.cons .nil .nil)))) (.ref rfl (Le.ow_map (f := fun _ => a3e 0) (List.range 3) (fun _ => rfl) (fun _ => rfl)) (.cl rfl (.cl rfl .nil))))))))))))) .nil⟩
 refine dv 6 fun K K' => ?_
 refine rlB r1r a4s ?_
 refine y2y (id := 9) a9y rfl r1r rfl rfl rfl rfl rfl rfl ?_
 refine y6y (zs := (List.range i).map (fun _ => b3h) ++ [b3h]) rfl rfl a9y rfl r1r rfl rfl rfl rfl (by rfl) rfl (by (simp only [a0e, r7r, a0b, a0d, a0u, a2z, T190]; omega)) ?_
 refine dv 5 ?_
 refine a9c (id := 11) a0o rfl s3s rfl rfl rfl rfl rfl ?_
 refine y6y (zs := (List.range i).map (fun _ => a3e 0) ++ [a3e 0]) rfl rfl a0o rfl s3s rfl rfl rfl rfl (by rfl) rfl (by (simp only [a0e, r7r, a0b, a0d, a0u, a2z, T3]; omega)) ?_
 refine dv 4 ?_
 refine z8z rfl rfl rfl (dv 1 ?_)
 exact ⟨i + 1, ⟨by omega, by omega⟩, [0, 0, 0, 0, 0, 0, 0, 0, 0, _, _, _, _, 0, _, _], (Cov.cons' (t := 5) rfl (by rw [x9x (by omega) (by omega)]; rfl) Cov.nil), x6x, (HE.row rfl (by rw [List.range_succ, List.map_append]; rfl) (HE.row rfl (by rw [List.range_succ, List.map_append]; rfl) (HE.box rfl rfl (HE.kill rfl (HE.kill rfl (HE.kill rfl (HE.kill rfl HE.nil))))))), x5x, rfl⟩
theorem c2f (id : Int) : a0t Tryz.prog 89 [.pv (.int .i64 id)] (.agg (u1u true (a2l id))) := by
 refine pX Tryz.f89 [.agg (u1u true (a2l id))] 5 ?_
 have hpl := a6e id 4
 refine dv 1 ?_
 refine x3x (id := 0) u9u q1q rfl (dv 3 fun K K' => ?_)
 refine x0x rfl rfl rfl (z1z ..) (dc 1 (aI ?_ ?_))<;>intro hc2<;>try simp at hc2
 ·have hns : a2l id = nd0 := if_neg (by omega)
  refine dv 1 ?_
  refine rlB u9u q1q ?_
  refine dv 2 ?_
  exact ⟨_, _, rfl, .agg rfl (by rw [hns]; exact .cl rfl (.cl rfl (.cl rfl (.cl rfl (.le rfl .nil (.le rfl .nil (.le rfl .nil (.cl rfl (.cl rfl (.le rfl .nil (.le rfl .nil (.cl rfl (.cl rfl .nil))))))))))))) .nil⟩
 have hin : 0 ≤ id ∧ id ≤ 2 := hc2
 have hns : a2l id = ⟨id, true, 1, 0, (q2q id 4).map b4j, z4z ((q2q id 4).map a1s), [], 0, 1, [vi0, vi0, vi0], [0, 0, 0], 0, 41⟩ := if_pos hin
 have hnb : ({ a2m ⟨id, true, 1, 0, (q2q id 4).map b4j, (q2q id 4).map a1s, [], 0, 0, [], [], 0, 0⟩ with version := 1 } : Nd) = a2l id := by rw [hns, c4e hin]; simp only [a2m, List.map_map]; rfl
 refine dv 4 ?_
 refine x0x rfl rfl rfl (b5f ..) (rlB u9u q1q ?_)
 refine x3x (id := 1) u9u q1q rfl (dv 5 fun K K' => ?_)
 refine a0h 1 5 4 56 7 rfl rfl rfl rfl rfl ?_
 refine x4x (ι := Nat) (fun i γ1 => [(4, pI (i : Int))]) (fun i γ1 => [(4, ((γ1 4), .row 56 7 ((((q2q id 4).take i).map a1s).map y9y))), (1, ((0 + 1), .box 65 [pI id, .pv (.bool true), pI 1, pI 0, .row (.rd true) 44 5 ((q2q id 4).map fun p => q7q true (b4j p)), .ref 4 (γ1 4), .pv (.slice none 0 0), pI 0, pI 0, .pv (.slice none 0 0), .pv (.slice none 0 0), pI 0, pI 0])), (2, ((γ1 2), .dead)), (3, ((γ1 3), .dead))]) (fun i => i ≤ (q2q id 4).length) (fun i => (q2q id 4).length - i) (q6q [2, 3] rfl) (u8u 0 rfl HE.nil) 0 (by omega) [0, 0, _, _, _] x6x (HE.row rfl (by rw [List.take_zero]; rfl) (HE.box rfl rfl (HE.kill rfl (HE.kill rfl HE.nil)))) rfl fun i γ1 hi => ?_
 refine dc 7 (fun K K' => aS ?_ ?_)<;>intro h<;>try simp at h
 ·obtain rfl : i = (q2q id 4).length := by omega
  rw [List.take_length]
  refine dv 1 ?_
  refine v9v (b := q3q true ((q2q id 4).map a1s)) 1 5 rfl rfl rfl (.ref rfl (Le.ow_map _ (fun _ => rfl) (fun _ => rfl)) .nil) rfl rfl rfl rfl ?_
  refine v9v (b := r0r true []) 1 6 rfl rfl rfl (.le rfl .nil .nil) rfl rfl rfl rfl ?_
  refine v9v (b := c1z true []) 1 9 rfl rfl rfl (.le rfl .nil .nil) rfl rfl rfl rfl ?_
  refine v9v (b := a4p true []) 1 10 rfl rfl rfl (.le rfl .nil .nil) rfl rfl rfl rfl ?_
  rw [show (AV.row (.rd true) 44 5 ((q2q id 4).map fun p => q7q true (b4j p))) = c0e true ((q2q id 4).map b4j) from by rw [c0e, List.map_map]; rfl]
  refine dv 2 ?_
  refine x0x rfl rfl rfl (c5m true ⟨id, true, 1, 0, (q2q id 4).map b4j, (q2q id 4).map a1s, [], 0, 0, [], [], 0, 0⟩ (by rw [List.length_map]; omega) (by rw [List.length_map]; omega) (by simp)) ?_
  refine dv 8 ?_
  exact b0r (cs := u1u true { a2m ⟨id, true, 1, 0, (q2q id 4).map b4j, (q2q id 4).map a1s, [], 0, 0, [], [], 0, 0⟩ with version := 1 }) rfl (by rw [hnb]) rfl rfl
 obtain ⟨p, hp⟩ := gE (q2q id 4) i
 refine dv 12 fun K K' => ?_
 refine x0x rfl rfl rfl (c5j ..) (y2y (id := 2) u3u rfl z2z rfl rfl rfl rfl rfl rfl ?_)
 refine y6y (zs := (((q2q id 4).take i).map a1s ++ [a1s p]).map y9y) rfl rfl u3u rfl z2z rfl rfl rfl rfl (by rfl) (z7z _ _ _) (by (simp only [a0e, r7r, a0b, a0d, a0u, a2z, T56]; omega)) ?_
 refine dv 4 ?_
 refine z8z rfl rfl rfl (dv 1 ?_)
 exact ⟨i + 1, ⟨by omega, by omega⟩, [0, 0, _, _, _], (Cov.cons' (t := 4) rfl (by rw [x9x (by omega) (by omega)]; rfl) Cov.nil), x6x, (HE.row rfl (by simp only [z6z hp, List.map_append, List.map_cons, List.map_nil]) (HE.box rfl rfl (HE.kill rfl (HE.kill rfl HE.nil)))), x5x, rfl⟩
end
section
theorem c2g (c : Bool) (n : Nd) : a0t Tryz.prog 233 [.agg (u1u c n)] (.pv (.bool (decide (a9j n)))) := by
 refine pX Tryz.f233 [.pv (.bool (decide (a9j n)))] 1 ?_
 refine dv 1 ?_
 refine y0y (id := 0) rfl rfl rfl (dv 4 ?_)
 refine x0x rfl rfl rfl (b9o ..) (dc 1 (aS ?_ ?_))<;>intro u<;>try simp at u
 ·refine dv 30 ?_
  refine x2x rfl ?_ rfl
  exact kF (by unfold a9j; omega)
 refine dv 2 ?_
 refine x0x rfl rfl rfl (u5u ..) (dc 2 (aS ?_ ?_))<;>intro u<;>try simp at u
 ·refine dv 25 ?_
  refine x2x rfl ?_ rfl
  exact kF (by unfold a9j; omega)
 refine dv 2 ?_
 refine x0x rfl rfl rfl (u5u ..) (dc 2 (aS ?_ ?_))<;>intro u<;>try simp at u
 ·refine dv 20 ?_
  refine x2x rfl ?_ rfl
  exact kF (by unfold a9j; omega)
 refine dv 2 ?_
 refine x0x rfl rfl rfl (u5u ..) (dc 2 (aS ?_ ?_))<;>intro u<;>try simp at u
 ·refine dv 15 ?_
  refine x2x rfl ?_ rfl
  exact kF (by unfold a9j; omega)
 refine dv 2 ?_
 refine x0x rfl rfl rfl (u5u ..) (dc 2 (aS ?_ ?_))<;>intro u<;>try simp at u
 ·refine dv 10 ?_
  refine x2x rfl ?_ rfl
  exact kF (by unfold a9j; omega)
 refine dv 2 ?_
 refine x0x rfl rfl rfl (u5u ..) (dc 2 (aS ?_ ?_))<;>intro u<;>try simp at u
 ·refine dv 5 ?_
  refine x2x rfl ?_ rfl
  exact kF (by unfold a9j; omega)
 refine dv 2 ?_
 refine x0x rfl rfl rfl (u5u ..) (dv 3 ?_)
 refine x2x rfl ?_ rfl
 exact congrArg (fun b : Bool => [AV.pv (.bool b)]) (decide_eq_decide.2 (by unfold a9j; omega))
theorem u6u  : a0t Tryz.prog 143 [] (.pv (.int .i64 9999)) := by
 refine pX Tryz.f143 [.pv (.int .i64 9999)] 0 ?_
 refine dv 5 ?_
 exact x2x rfl rfl rfl
theorem b3k (c : Bool) (v : Vi) : a0t Tryz.prog 168 [.agg (a2b c v)] (.pv (.bool (kb (d6z v)))) := by
 refine pX Tryz.f168 [.pv (.bool (kb (d6z v)))] 1 ?_
 refine dv 1 ?_
 refine y0y (id := 0) rfl rfl rfl (dv 4 ?_)
 refine x0x rfl rfl rfl (u6u ..) (x0x rfl rfl rfl (z1z ..) (dc 1 (aS ?_ ?_)))<;>intro u<;>try simp at u
 ·refine dv 12 ?_
  refine x2x rfl ?_ rfl
  exact congrArg (fun b : Bool => [AV.pv (.bool b)]) (a4g (fun h => by obtain ⟨q1, q2, q3⟩ := h; omega))
 refine dv 2 ?_
 refine x0x rfl rfl rfl (u6u ..) (dv 0 ?_)
 refine x0x rfl rfl rfl (z1z ..) (dc 2 (aS ?_ ?_))<;>intro u<;>try simp at u
 ·refine dv 6 ?_
  refine x2x rfl ?_ rfl
  exact congrArg (fun b : Bool => [AV.pv (.bool b)]) (a4g (fun h => by obtain ⟨q1, q2, q3⟩ := h; omega))
 refine dv 2 ?_
 refine x0x rfl rfl rfl (a4j ..) (dv 0 ?_)
 refine x0x rfl rfl rfl (a4d ..) (dv 3 ?_)
 refine x2x rfl ?_ rfl
 exact congrArg (fun b : Bool => [AV.pv (.bool b)]) (e7n ⟨fun h => ⟨by omega, by omega, h⟩, fun h => h.2.2⟩)
theorem c5n (c : Bool) (n : Nd) : a0t Tryz.prog 146 [.agg (u1u c n)] (.pv (.bool (kb (c9o n)))) := by
 refine pX Tryz.f146 [.pv (.bool (kb (c9o n)))] 1 ?_
 refine dv 1 ?_
 refine y0y (id := 0) rfl rfl rfl (dc 8 (fun K K' => aS ?_ ?_))<;>intro u<;>try simp at u
 ·refine dv 28 ?_
  refine x2x rfl ?_ rfl
  exact congrArg (fun b : Bool => [AV.pv (.bool b)]) (a4g (fun h => by obtain ⟨q1, q2, q3, q4, q5, q6⟩ := h; omega))
 refine dc 6 (aS ?_ ?_)<;>intro u<;>try simp at u
 ·refine dv 22 ?_
  refine x2x rfl ?_ rfl
  exact congrArg (fun b : Bool => [AV.pv (.bool b)]) (a4g (fun h => by obtain ⟨q1, q2, q3, q4, q5, q6⟩ := h; omega))
 refine dv 2 ?_
 refine x0x rfl rfl rfl (u6u ..) (dv 0 ?_)
 refine x0x rfl rfl rfl (z1z ..) (dc 3 (aS ?_ ?_))<;>intro u<;>try simp at u
 ·refine dv 15 ?_
  refine x2x rfl ?_ rfl
  exact congrArg (fun b : Bool => [AV.pv (.bool b)]) (a4g (fun h => by obtain ⟨q1, q2, q3, q4, q5, q6⟩ := h; omega))
 refine dv 2 ?_
 refine x0x rfl rfl rfl (u6u ..) (dv 0 ?_)
 refine x0x rfl rfl rfl (z1z ..) (dc 3 (aS ?_ ?_))<;>intro u<;>try simp at u
 ·refine dv 8 ?_
  refine x2x rfl ?_ rfl
  exact congrArg (fun b : Bool => [AV.pv (.bool b)]) (a4g (fun h => by obtain ⟨q1, q2, q3, q4, q5, q6⟩ := h; omega))
 refine dv 2 ?_
 refine x0x rfl rfl rfl (z1z ..) (dc 2 (aI ?_ ?_))<;>intro u<;>try simp at u
 ·refine dv 3 ?_
  refine x2x rfl ?_ rfl
  exact congrArg (fun b : Bool => [AV.pv (.bool b)]) (a4g (fun h => by obtain ⟨q1, q2, q3, q4, q5, q6⟩ := h; omega))
 have hL : n.views.length = 3 ∧ n.known.length = 3 ∧ (0 ≤ n.version ∧ n.version ≤ 9999) ∧ (0 ≤ n.round ∧ n.round ≤ 9999) ∧ (0 ≤ n.low ∧ n.low ≤ 41) := by omega
 refine dv 5 fun K K' => ?_
 refine x4x (ι := Nat) (fun i γ1 => [(3, pI (i : Int))]) (fun i γ1 => []) (fun i => i ≤ 3 ∧ c9p n.views (fun j v => ∀ k, n.known[j]? = some k → d6z v ∧ 0 ≤ k ∧ k ≤ 41) i) (fun i => 3 - i) (x7x 1 rfl Cov.nil) (u8u 0 rfl HE.nil) 0 ⟨by omega, a1p⟩ [] x6x x5x rfl fun i γ1 hi => ?_
 obtain ⟨h1, h2⟩ := hi
 refine dc 4 (fun K K' => aS ?_ ?_)<;>intro u<;>try simp at u
 ·obtain rfl : i = 3 := by omega
  refine dv 4 ?_
  refine x2x rfl ?_ rfl
  exact congrArg (fun b : Bool => [AV.pv (.bool b)]) (e2y ⟨hL.1, hL.2.1, hL.2.2.1, hL.2.2.2.1, hL.2.2.2.2, fun i v k a b => a3d h2 (by omega) i v a k b⟩)
 obtain ⟨v, hv⟩ := gE n.views i
 obtain ⟨k, hk⟩ := gE n.known i
 refine dv 9 fun K K' => ?_
 refine x0x rfl rfl rfl (b3k ..) (dc 2 (aS ?_ ?_))<;>intro hg11<;>try simp at hg11
 ·have hbad : ¬ d6z v := a1h (by simpa using hg11)
  refine dv 11 ?_
  refine x2x rfl ?_ rfl
  exact congrArg (fun b : Bool => [AV.pv (.bool b)]) (a4g (fun h => hbad (h.2.2.2.2.2 _ _ _ hv hk).1))
 have hvo : d6z v := a1d.1 (by simpa using hg11)
 refine dv 5 ?_
 refine x0x rfl rfl rfl (z1z ..) (dc 2 (aS ?_ ?_))<;>intro u<;>try simp at u
 ·refine dv 3 ?_
  refine x8x (b := 1) rfl rfl (by omega) (dv 1 ?_)
  exact ⟨i + 1, ⟨⟨by omega, s6s h2 hv (fun k2 hk2 => by rw [hk] at hk2; cases hk2; exact ⟨hvo, by omega⟩)⟩, by omega⟩, [], x6x, x6x, x5x, x5x, rfl⟩
 refine dv 3 ?_
 refine x2x rfl ?_ rfl
 exact congrArg (fun b : Bool => [AV.pv (.bool b)]) (a4g (fun h => by have := (h.2.2.2.2.2 _ _ _ hv hk).2; omega))
theorem c6v (c : Bool) (n : Nd) : a0t Tryz.prog 129 [.agg (u1u c n)] (.pv (.bool (kb (a0x n)))) := by
 refine pX Tryz.f129 [.pv (.bool (kb (a0x n)))] 4 ?_
 refine dv 1 ?_
 refine y0y (id := 0) rfl rfl rfl (dv 4 fun K K' => ?_)
 refine x0x rfl rfl rfl (c2g ..) (dc 2 (aS ?_ ?_))<;>intro hg2<;>try simp at hg2
 ·have hX : ¬ a9j n := hg2
  refine dv 14 ?_
  refine x2x rfl ?_ rfl
  exact congrArg (fun b : Bool => [AV.pv (.bool b)]) (a4g (fun h => by obtain ⟨q1, q2, q3, q4, q5, q6, q7, q8, q9⟩ := h; exact hX q1))
 have hA1 : a9j n := hg2
 refine dv 2 ?_
 refine x0x rfl rfl rfl (a6i ..) (dc 3 (aS ?_ ?_))<;>intro hg3<;>try simp at hg3
 ·have hX : ¬ a9i okE a2t n.kept 100 = true := by simpa using hg3
  refine dv 8 ?_
  refine x2x rfl ?_ rfl
  exact congrArg (fun b : Bool => [AV.pv (.bool b)]) (a4g (fun h => by obtain ⟨q1, q2, q3, q4, q5, q6, q7, q8, q9⟩ := h; exact hX q2))
 have hA2 : a9i okE a2t n.kept 100 = true := hg3
 refine dv 2 ?_
 refine x0x rfl rfl rfl (b9p ..) (dc 2 (aI ?_ ?_))<;>intro hc4<;>try simp at hc4
 ·try have hX : ¬ a9i okO b3q n.outs 96 = true := by simpa using hc4
  refine dv 3 ?_
  refine x2x rfl ?_ rfl
  exact congrArg (fun b : Bool => [AV.pv (.bool b)]) (a4g (fun h => by obtain ⟨q1, q2, q3, q4, q5, q6, q7, q8, q9⟩ := h; exact hX q3))
 have hA3 : a9i okO b3q n.outs 96 = true := hc4
 refine dv 8 fun K K' => ?_
 refine u0u 27 rfl fun hlen0 => ?_
 refine x4x (ι := Nat) (fun i γ1 => [(29, pI (i : Int))]) (fun i γ1 => [(1, ((γ1 1), .dead))]) (fun i => i ≤ n.outs.length ∧ c9p n.outs (fun _ o => o.time < n.g) i) (fun i => n.outs.length - i) (q6q [1, 27, 28] rfl) (a0p [0, 2, 3] rfl) 0 ⟨by omega, a1p⟩ [0, _] x6x x5x rfl fun i γ1 hi => ?_
 obtain ⟨a1, a2⟩ := hi
 refine dc 3 (fun K K' => aI ?_ ?_)<;>intro u<;>try simp at u
 ·obtain ⟨o, ho⟩ := gE n.outs i
  refine dv 6 fun K K' => ?_
  refine x3x (id := 1) w9w c7s rfl (dc 7 (aS ?_ ?_))<;>intro u<;>try simp at u
  ·have hlt : o.time < n.g := by omega
   refine dv 2 ?_
   refine x8x (b := 1) rfl rfl (by omega) (dv 1 ?_)
   exact ⟨i + 1, ⟨⟨by omega, s6s a2 ho hlt⟩, by omega⟩, [0, _], x6x, x6x, x5x, x5x, rfl⟩
  have hX : ¬ o.time < n.g := by omega
  refine dv 3 ?_
  refine x2x rfl ?_ rfl
  exact congrArg (fun b : Bool => [AV.pv (.bool b)]) (a4g (fun h => by obtain ⟨q1, q2, q3, q4, q5, q6, q7, q8, q9⟩ := h; exact hX (q4 _ _ ho)))
 have hO : ∀ (i : Nat) o, n.outs[i]? = some o → o.time < n.g := a3d a2 (by omega)
 refine dv 4 ?_
 refine x0x rfl rfl rfl (a7d ..) (dc 10 (fun K K' => aS ?_ ?_))<;>intro u<;>try simp at u
 ·refine dv 14 ?_
  refine x2x rfl ?_ rfl
  exact congrArg (fun b : Bool => [AV.pv (.bool b)]) (a4g (fun h => by obtain ⟨q1, q2, q3, q4, q5, q6, q7, q8, q9⟩ := h; omega))
 refine dc 6 (aS ?_ ?_)<;>intro u<;>try simp at u
 ·refine dv 8 ?_
  refine x2x rfl ?_ rfl
  exact congrArg (fun b : Bool => [AV.pv (.bool b)]) (a4g (fun h => by obtain ⟨q1, q2, q3, q4, q5, q6, q7, q8, q9⟩ := h; omega))
 refine dc 5 (aI ?_ ?_)<;>intro u<;>try simp at u
 ·refine dv 3 ?_
  refine x2x rfl ?_ rfl
  exact congrArg (fun b : Bool => [AV.pv (.bool b)]) (a4g (fun h => by obtain ⟨q1, q2, q3, q4, q5, q6, q7, q8, q9⟩ := h; omega))
 have hL : n.lanes.length = (q2q n.id 4).length ∧ n.views.length = 3 ∧ n.known.length = 3 := by omega
 refine dv 8 fun K K' => ?_
 refine u0u 61 rfl fun hlen1 => ?_
 refine x4x (ι := Nat) (fun j γ2 => [(63, pI (j : Int))]) (fun j γ2 => [(2, ((γ2 2), .dead))]) (fun j => j ≤ n.lanes.length ∧ c9p n.lanes (fun j l => (q2q n.id 4)[j]? = some l.proc ∧ a7r l = true) j) (fun j => n.lanes.length - j) (q6q [1, 5, 61, 62] rfl) (a0p [0, 1, 3] rfl) 0 ⟨by omega, a1p⟩ [0, 0, _] x6x x5x rfl fun j γ2 hi => ?_
 obtain ⟨b1, b2⟩ := hi
 refine dc 3 (fun K K' => aI ?_ ?_)<;>intro u<;>try simp at u
 ·obtain ⟨l, hl⟩ := gE n.lanes j
  obtain ⟨q, hq⟩ := gE (q2q n.id 4) j
  refine dv 7 fun K K' => ?_
  refine x3x (id := 2) a0m a6r rfl (dc 11 (aS ?_ ?_))<;>intro hg18<;>try simp at hg18
  ·have hX : ¬ l.proc = q := hg18
   refine dv 7 ?_
   refine x2x rfl ?_ rfl
   exact congrArg (fun b : Bool => [AV.pv (.bool b)]) (a4g (fun h => by obtain ⟨q1, q2, q3, q4, q5, q6, q7, q8, q9⟩ := h; have := (q8 _ _ hl).1; rw [hq] at this; exact hX (Option.some.inj this).symm))
  have hpe : l.proc = q := hg18
  refine dv 1 ?_
  refine x0x rfl rfl rfl (d0o ..) (dc 2 (aS ?_ ?_))<;>intro hc19<;>try simp at hc19
  ·have hlo : a7r l = true := hc19
   refine dv 2 ?_
   refine x8x (b := 1) rfl rfl (by omega) (dv 1 ?_)
   exact ⟨j + 1, ⟨⟨by omega, s6s b2 hl ⟨by rw [hq, hpe], hlo⟩⟩, by omega⟩, [0, 0, _], x6x, x6x, x5x, x5x, rfl⟩
  try have hX : ¬ a7r l = true := by simpa using hc19
  refine dv 3 ?_
  refine x2x rfl ?_ rfl
  exact congrArg (fun b : Bool => [AV.pv (.bool b)]) (a4g (fun h => by obtain ⟨q1, q2, q3, q4, q5, q6, q7, q8, q9⟩ := h; exact hX (q8 _ _ hl).2))
 have hN : e7o n := a3d b2 (by omega)
 refine dv 8 fun K K' => ?_
 refine u0u 82 rfl fun hlen2 => ?_
 refine x4x (ι := Nat) (fun k γ3 => [(84, pI (k : Int))]) (fun k γ3 => [(3, ((γ3 3), .dead))]) (fun k => k ≤ n.views.length ∧ c9p n.views (fun j v => ∀ k, n.known[j]? = some k → d6z v ∧ 0 ≤ k ∧ k ≤ 41) k) (fun k => n.views.length - k) (q6q [1, 82, 83] rfl) (a0p [0, 1, 2] rfl) 0 ⟨by omega, a1p⟩ [0, 0, 0, _] x6x x5x rfl fun k γ3 hi => ?_
 obtain ⟨c1, c2⟩ := hi
 refine dc 3 (fun K K' => aS ?_ ?_)<;>intro u<;>try simp at u
 ·have hV : e2z n := fun i v k0 a b => a3d c2 (by omega) i v a k0 b
  refine dv 4 ?_
  refine x2x rfl ?_ rfl
  exact congrArg (fun b : Bool => [AV.pv (.bool b)]) (e2y ⟨hA1, hA2, hA3, hO, hL.1, hL.2.1, hL.2.2, hN, hV⟩)
 obtain ⟨v, hv⟩ := gE n.views k
 obtain ⟨k0, hk⟩ := gE n.known k
 refine dv 7 fun K K' => ?_
 refine x3x (id := 3) r1r a4s rfl (dv 2 ?_)
 refine p9p (ι := Unit) (fun _i γ4 => [(10, .pv (.bool (kb (d6z v))))]) (fun _i γ4 => []) (fun _i => True) (q6q [1, 8, 82, 83, 84] rfl) (a0p [0, 1, 2, 3] rfl) ?_ fun _i γ4 hi => ?_
 ·refine dv 3 ?_
  refine x0x rfl rfl rfl (u5u ..) (dc 1 (aS ?_ ?_))<;>intro u<;>try simp at u
  ·refine dv 9 ?_
   exact ⟨(), trivial, [], (Cov.cons' (t := 10) rfl (by exact congrArg (fun b : Bool => AV.pv (.bool b)) (a4g (fun h => by obtain ⟨q1, q2, q3⟩ := h; omega))) Cov.nil), x6x, x5x, x5x, rfl⟩
  refine dv 2 ?_
  refine x0x rfl rfl rfl (u5u ..) (dc 2 (aS ?_ ?_))<;>intro u<;>try simp at u
  ·refine dv 4 ?_
   exact ⟨(), trivial, [], (Cov.cons' (t := 10) rfl (by exact congrArg (fun b : Bool => AV.pv (.bool b)) (a4g (fun h => by obtain ⟨q1, q2, q3⟩ := h; omega))) Cov.nil), x6x, x5x, x5x, rfl⟩
  refine dv 2 ?_
  refine x0x rfl rfl rfl (a6i ..) (dv 2 ?_)
  exact ⟨(), trivial, [], (Cov.cons' (t := 10) rfl (congrArg (fun b : Bool => AV.pv (.bool b)) (e7n ⟨fun h => ⟨by omega, by omega, h⟩, fun h => h.2.2⟩)) Cov.nil), x6x, x5x, x5x, rfl⟩
 ·try dsimp only [b1e, b1f]
  refine dc 4 (aS ?_ ?_)<;>intro hg27<;>try simp at hg27
  ·have hX : ¬ d6z v := a1h (by simpa using hg27)
   refine dv 11 ?_
   refine x2x rfl ?_ rfl
   exact congrArg (fun b : Bool => [AV.pv (.bool b)]) (a4g (fun h => by obtain ⟨q1, q2, q3, q4, q5, q6, q7, q8, q9⟩ := h; exact hX (q9 _ _ _ hv hk).1))
  have hvo : d6z v := a1d.1 (by simpa using hg27)
  refine dv 5 ?_
  refine x0x rfl rfl rfl (u5u ..) (dc 2 (aS ?_ ?_))<;>intro u<;>try simp at u
  ·refine dv 2 ?_
   refine x8x (b := 1) rfl rfl (by omega) (dv 1 ?_)
   exact ⟨k + 1, ⟨⟨by omega, s6s c2 hv (fun k2 hk2 => by rw [hk] at hk2; cases hk2; exact ⟨hvo, by omega⟩)⟩, by omega⟩, [0, 0, 0, _], x6x, x6x, x5x, x5x, rfl⟩
  refine dv 3 ?_
  refine x2x rfl ?_ rfl
  exact congrArg (fun b : Bool => [AV.pv (.bool b)]) (a4g (fun h => by obtain ⟨q1, q2, q3, q4, q5, q6, q7, q8, q9⟩ := h; have := (q9 _ _ _ hv hk).2; omega))
end
section
theorem a4y (c : Bool) (n : Nd) (proc : Int) (hs : (r2r n).length + (a0f n 3).length ≤ 5000000) (hlen : n.lanes.length ≤ 1048576) (hv3 : n.views.length = 3) : a0t Tryz.prog 124 [.agg (u1u c n), .pv (.int .i64 proc)] (q3q true (a1e n proc)) := by
 refine pX Tryz.f124 [q3q true (a1e n proc)] 6 ?_
 have hla : (r2r n ++ a0f n 3).length = (r2r n).length + (a0f n 3).length := List.length_append
 refine dv 1 ?_
 refine y0y (id := 0) rfl rfl rfl (dv 3 ?_)
 refine rlM [5] [_] (a7f c n (by omega) hlen) rfl rfl rfl ?_
 refine dv 5 fun K K' => ?_
 refine x4x (ι := Nat) (fun i γ1 => [(5, .ref 5 (γ1 5)), (6, pI (i : Int))]) (fun i γ1 => [(5, ((γ1 5), .row 56 7 ((r2r n ++ a0f n i).map y9y))), (1, ((γ1 1), .dead))]) (fun i => i ≤ 3) (fun i => 3 - i) (q6q [1, 2] rfl) (a0p [0, 2, 3, 4] rfl) 0 (by omega) [0, _, 0, 0, 0, _] x6x (HE.row rfl (by simp [a0f]) (HE.kill rfl HE.nil)) rfl fun i γ1 hi => ?_
 refine dc 7 (fun K K' => aI ?_ ?_)<;>intro h<;>try simp at h
 ·obtain ⟨v, hv⟩ := gE n.views i
  have hg : n.views.getD i vi0 = v := by rw [List.getD_eq_getElem?_getD, hv]; rfl
  have hol := c4h n (i := i + 1) (by omega)
  rw [a1f] at hol
  refine dc 8 (fun K K' => aS ?_ ?_)<;>intro hc5<;>try simp at hc5
  ·have hve : b0t n i = [] := by rw [b0t, if_pos hc5]
   refine dv 3 ?_
   refine z8z rfl rfl rfl (dv 1 ?_)
   exact ⟨i + 1, ⟨by omega, by omega⟩, [0, _, 0, 0, 0, _], (x7x 5 rfl (Cov.cons' (t := 6) rfl (by rw [x9x (by omega) (by omega)]; rfl) Cov.nil)), x6x, (HE.row rfl (by rw [a1f, hve]; simp) (HE.kill rfl HE.nil)), x5x, rfl⟩
  have hve : b0t n i = v.events := by rw [b0t, if_neg hc5, hg]
  rw [hve] at hol
  simp only [r7r] at hol
  refine dv 8 ?_
  refine w6w (zs := (r2r n ++ a0f n i ++ v.events).map y9y) rfl rfl u3u rfl z2z rfl rfl rfl (z9z (fun _ => rfl) _) (a7x _ _ _) (by have hb56 : T56.bytes = 56 := rfl; rw [List.length_map, hb56]; simp only [r7r, a0b, a0d]; omega) ?_
  refine dv 3 ?_
  refine z8z rfl rfl rfl (dv 1 ?_)
  exact ⟨i + 1, ⟨by omega, by omega⟩, [0, _, 0, 0, 0, _], (x7x 5 rfl (Cov.cons' (t := 6) rfl (by rw [x9x (by omega) (by omega)]; rfl) Cov.nil)), x6x, (HE.row rfl (by rw [a1f, hve]; simp) (HE.kill rfl HE.nil)), x5x, rfl⟩
 obtain rfl : i = 3 := by omega
 have hall : (r2r n ++ a0f n 3).length ≤ 5000000 := by rw [List.length_append]; omega
 refine dv 1 ?_
 refine p7p 5 rfl rfl (fun _ => rfl) ?_
 refine dv 1 ?_
 refine y1y (id := 2) u3u rfl z2z rfl (dv 5 fun K K' => ?_)
 refine x4x (ι := Nat) (fun j γ2 => [(7, .ref 2 (γ2 2)), (8, pI (j : Int))]) (fun j γ2 => [(2, ((γ2 2), .row 56 7 ((((r2r n ++ a0f n 3).take j).filter (a9k proc n.g)).map y9y))), (3, ((γ2 3), .dead)), (4, ((γ2 4), .dead))]) (fun j => j ≤ (r2r n ++ a0f n 3).length) (fun j => (r2r n ++ a0f n 3).length - j) (q6q [1, 2, 5] rfl) (a0p [0, 1, 5] rfl) 0 (by omega) [0, 0, _, _, _] x6x (HE.row rfl (by rw [List.take_zero]; rfl) (HE.kill rfl (HE.kill rfl HE.nil))) rfl fun j γ2 hi => ?_
 refine dc 6 (fun K K' => aS ?_ ?_)<;>intro h<;>try simp at h
 ·obtain rfl : j = (r2r n ++ a0f n 3).length := by omega
  rw [List.take_length]
  refine dv 1 ?_
  refine p7p 7 rfl rfl (fun _ => rfl) ?_
  refine dv 2 ?_
  refine x0x rfl rfl rfl (a1y true ((r2r n ++ a0f n 3).filter (a9k proc n.g)) (Nat.le_trans (List.length_filter_le _ _) (by rw [List.length_append]; omega))) ?_
  refine dv 2 ?_
  refine x2x rfl rfl rfl
 obtain ⟨p, hp⟩ := gE (r2r n ++ a0f n 3) j
 have hfl : (((r2r n ++ a0f n 3).take j).filter (a9k proc n.g)).length ≤ 5000000 := Nat.le_trans (List.length_filter_le _ _) (by rw [List.length_take]; omega)
 refine dc 12 (fun K K' => aS ?_ ?_)<;>intro hg10<;>try simp at hg10
 ·have hw : ¬ a9k proc n.g p = true := by simp only [a9k, decide_eq_true_eq]; omega
  refine dv 9 ?_
  try have hw : ¬ a9k proc n.g p = true := by simp only [a9k, decide_eq_true_eq]; omega
  refine dv 3 ?_
  refine z8z rfl rfl rfl (dv 1 ?_)
  exact ⟨j + 1, ⟨by omega, by omega⟩, [0, 0, _, _, _], (x7x 7 rfl (Cov.cons' (t := 8) rfl (by rw [x9x (by omega) (by omega)]; rfl) Cov.nil)), x6x, (HE.row rfl (by rw [q9q hp]; rw [if_neg hw, List.append_nil]) (HE.kill rfl (HE.kill rfl HE.nil))), x5x, rfl⟩
 have hw1 : p.to = proc := hg10
 refine dc 9 (aS ?_ ?_)<;>intro h<;>try simp at h
 ·try have hw : ¬ a9k proc n.g p = true := by simp only [a9k, decide_eq_true_eq]; omega
  refine dv 3 ?_
  refine z8z rfl rfl rfl (dv 1 ?_)
  exact ⟨j + 1, ⟨by omega, by omega⟩, [0, 0, _, _, _], (x7x 7 rfl (Cov.cons' (t := 8) rfl (by rw [x9x (by omega) (by omega)]; rfl) Cov.nil)), x6x, (HE.row rfl (by rw [q9q hp]; rw [if_neg hw, List.append_nil]) (HE.kill rfl (HE.kill rfl HE.nil))), x5x, rfl⟩
 have hw : a9k proc n.g p = true := by simp only [a9k, decide_eq_true_eq]; omega
 refine dv 6 ?_
 refine y2y (id := 3) u3u rfl z2z rfl rfl rfl rfl rfl rfl ?_
 refine y6y (zs := (((r2r n ++ a0f n 3).take j).filter (a9k proc n.g) ++ [p]).map y9y) rfl rfl u3u rfl z2z rfl rfl rfl rfl (by rfl) (z7z _ _ _) (by have hb56 : T56.bytes = 56 := rfl; rw [List.length_map, hb56]; simp only [r7r, a0b, a0d]; omega) ?_
 refine dv 3 ?_
 refine z8z rfl rfl rfl (dv 1 ?_)
 exact ⟨j + 1, ⟨by omega, by omega⟩, [0, 0, _, _, _], (x7x 7 rfl (Cov.cons' (t := 8) rfl (by rw [x9x (by omega) (by omega)]; rfl) Cov.nil)), x6x, (HE.row rfl (by rw [q9q hp]; rw [if_pos hw]) (HE.kill rfl (HE.kill rfl HE.nil))), x5x, rfl⟩
end
section
theorem p2p (c : Bool) (n : Nd) : a0t Tryz.prog 46 [.agg (u1u c n)] (.pv (.bool (kb (y3y n)))) := by
 refine pX Tryz.f46 [.pv (.bool (kb (y3y n)))] 1 ?_
 have hpl := a6e n.id 4
 refine dv 1 ?_
 refine y0y (id := 0) rfl rfl rfl (dv 5 fun K K' => ?_)
 refine x0x rfl rfl rfl (z1z ..) (dc 2 (aS ?_ ?_))<;>intro hg2<;>try simp at hg2
 ·have hX : ¬ (0 ≤ n.id ∧ n.id ≤ 2) := by omega
  refine dv 40 ?_
  refine x2x rfl ?_ rfl
  exact congrArg (fun b : Bool => [AV.pv (.bool b)]) (a4g (fun h => by obtain ⟨⟨q1, q2, q3, q4, q5, q6, q7, q8, q9⟩, q0⟩ := h; exact hX q1.1))
 have f1 : 0 ≤ n.id ∧ n.id ≤ 2 := hg2
 refine dv 2 ?_
 refine x0x rfl rfl rfl (u6u ..) (dv 0 ?_)
 refine x0x rfl rfl rfl (z1z ..) (dc 3 (aS ?_ ?_))<;>intro hg3<;>try simp at hg3
 ·have hX : ¬ (1 ≤ n.inc ∧ n.inc ≤ 9999) := by omega
  refine dv 33 ?_
  refine x2x rfl ?_ rfl
  exact congrArg (fun b : Bool => [AV.pv (.bool b)]) (a4g (fun h => by obtain ⟨⟨q1, q2, q3, q4, q5, q6, q7, q8, q9⟩, q0⟩ := h; exact hX q1.2.1))
 have f2 : 1 ≤ n.inc ∧ n.inc ≤ 9999 := hg3
 refine dv 2 ?_
 refine x0x rfl rfl rfl (z1z ..) (dc 3 (aS ?_ ?_))<;>intro hg4<;>try simp at hg4
 ·have hX : ¬ (0 ≤ n.g ∧ n.g ≤ 41) := by omega
  refine dv 27 ?_
  refine x2x rfl ?_ rfl
  exact congrArg (fun b : Bool => [AV.pv (.bool b)]) (a4g (fun h => by obtain ⟨⟨q1, q2, q3, q4, q5, q6, q7, q8, q9⟩, q0⟩ := h; exact hX q1.2.2.1))
 have f3 : 0 ≤ n.g ∧ n.g ≤ 41 := hg4
 refine dv 2 ?_
 refine x0x rfl rfl rfl (u6u ..) (dv 0 ?_)
 refine x0x rfl rfl rfl (z1z ..) (dc 3 (aS ?_ ?_))<;>intro hg5<;>try simp at hg5
 ·have hX : ¬ (0 ≤ n.led ∧ n.led ≤ 9999) := by omega
  refine dv 20 ?_
  refine x2x rfl ?_ rfl
  exact congrArg (fun b : Bool => [AV.pv (.bool b)]) (a4g (fun h => by obtain ⟨⟨q1, q2, q3, q4, q5, q6, q7, q8, q9⟩, q0⟩ := h; exact hX q1.2.2.2.1))
 have f4 : 0 ≤ n.led ∧ n.led ≤ 9999 := hg5
 refine dv 2 ?_
 refine x0x rfl rfl rfl (a4j ..) (dv 0 ?_)
 refine x0x rfl rfl rfl (a4d ..) (dc 3 (aS ?_ ?_))<;>intro hg6<;>try simp at hg6
 ·have hX : ¬ a9i okE a2t n.kept 100 = true := by simpa using hg6
  refine dv 13 ?_
  refine x2x rfl ?_ rfl
  exact congrArg (fun b : Bool => [AV.pv (.bool b)]) (a4g (fun h => by obtain ⟨⟨q1, q2, q3, q4, q5, q6, q7, q8, q9⟩, q0⟩ := h; exact hX q2))
 have f5 : a9i okE a2t n.kept 100 = true := hg6
 refine dv 2 ?_
 refine x0x rfl rfl rfl (a8q ..) (dc 3 (aS ?_ ?_))<;>intro hg7<;>try simp at hg7
 ·have hX : ¬ a9i okO b3q n.outs 96 = true := by simpa using hg7
  refine dv 7 ?_
  refine x2x rfl ?_ rfl
  exact congrArg (fun b : Bool => [AV.pv (.bool b)]) (a4g (fun h => by obtain ⟨⟨q1, q2, q3, q4, q5, q6, q7, q8, q9⟩, q0⟩ := h; exact hX q3))
 have f6 : a9i okO b3q n.outs 96 = true := hg7
 refine dv 1 ?_
 refine x0x rfl rfl rfl (c5n ..) (dc 2 (aI ?_ ?_))<;>intro hc8<;>try simp at hc8
 ·try have hX : ¬ c9o n := a1h (by simpa using hc8)
  refine dv 3 ?_
  refine x2x rfl ?_ rfl
  exact congrArg (fun b : Bool => [AV.pv (.bool b)]) (a4g (fun h => by obtain ⟨⟨q1, q2, q3, q4, q5, q6, q7, q8, q9⟩, q0⟩ := h; exact hX ⟨q6, q7, q1.2.2.2.2.1, q1.2.2.2.2.2.1, q1.2.2.2.2.2.2, q9⟩))
 have fF : c9o n := a1d.1 (by simpa using hc8)
 have fo96 := (r3r f6).1
 refine dv 1 ?_
 refine p9p (ι := Unit) (fun _i γ1 => []) (fun _i γ1 => []) (fun _i => ∀ (i : Nat) a, n.outs[i]? = some a → a.time < n.g) (x7x 1 rfl Cov.nil) (u8u 0 rfl HE.nil) ?_ fun _i γ1 hi => ?_
 ·refine dc 6 (aS ?_ ?_)<;>intro hg9<;>try simp at hg9
  ·have g0 : n.outs.length = 0 := by (rw [hg9]; rfl)
   have fO : ∀ (i : Nat) a, n.outs[i]? = some a → a.time < n.g := fun i a ha => by have := (List.getElem?_eq_some_iff.1 ha).1; omega
   refine dv 13 ?_
   try have fO : ∀ (i : Nat) a, n.outs[i]? = some a → a.time < n.g := d2p f6 ho (by omega)
   refine dv 1 ?_
   exact ⟨(), fO, [], x6x, x6x, x5x, x5x, rfl⟩
  have g0 : 0 < n.outs.length := by omega
  obtain ⟨o, ho⟩ := gE n.outs (n.outs.length - 1)
  refine dv 5 ?_
  refine p6p (b := 1) rfl rfl (by omega) (by omega) (dc 7 (aS ?_ ?_))<;>intro u<;>try simp at u
  ·try have fO : ∀ (i : Nat) a, n.outs[i]? = some a → a.time < n.g := d2p f6 ho (by omega)
   refine dv 1 ?_
   exact ⟨(), fO, [], x6x, x6x, x5x, x5x, rfl⟩
  have hX : ¬ o.time < n.g := by omega
  refine dv 3 ?_
  refine x2x rfl ?_ rfl
  exact congrArg (fun b : Bool => [AV.pv (.bool b)]) (a4g (fun h => by obtain ⟨⟨q1, q2, q3, q4, q5, q6, q7, q8, q9⟩, q0⟩ := h; exact hX (q4 _ _ ho)))
 ·try dsimp only [b1e, b1f]
  have fO := hi
  refine dv 3 ?_
  refine x0x rfl rfl rfl (b5f ..) (dc 9 (fun K K' => aI ?_ ?_))<;>intro u<;>try simp at u
  ·refine dv 3 ?_
   refine x2x rfl ?_ rfl
   exact congrArg (fun b : Bool => [AV.pv (.bool b)]) (a4g (fun h => by obtain ⟨⟨q1, q2, q3, q4, q5, q6, q7, q8, q9⟩, q0⟩ := h; omega))
  have fL : n.lanes.length = (q2q n.id 4).length := by omega
  refine dv 5 fun K K' => ?_
  refine x4x (ι := Nat) (fun i γ2 => [(4, pI (i : Int))]) (fun i γ2 => []) (fun i => i ≤ (q2q n.id 4).length ∧ c9p n.lanes (fun j l => (q2q n.id 4)[j]? = some l.proc ∧ a7r l = true) i) (fun i => (q2q n.id 4).length - i) (q6q [1, 3] rfl) (u8u 0 rfl HE.nil) 0 ⟨by omega, a1p⟩ [] x6x x5x rfl fun i γ2 hi => ?_
  obtain ⟨b1, b2⟩ := hi
  refine dc 6 (fun K K' => aI ?_ ?_)<;>intro u<;>try simp at u
  ·obtain ⟨l, hl⟩ := gE n.lanes i
   obtain ⟨p, hp⟩ := gE (q2q n.id 4) i
   refine dv 9 fun K K' => ?_
   refine x0x rfl rfl rfl (a4k ..) (dc 2 (aS ?_ ?_))<;>intro hg18<;>try simp at hg18
   ·have hX : ¬ a7r l = true := by simpa using hg18
    refine dv 16 ?_
    refine x2x rfl ?_ rfl
    exact congrArg (fun b : Bool => [AV.pv (.bool b)]) (a4g (fun h => by obtain ⟨⟨q1, q2, q3, q4, q5, q6, q7, q8, q9⟩, q0⟩ := h; exact hX (q8 _ _ hl).2))
   have hlo : a7r l = true := hg18
   refine dc 13 (aS ?_ ?_)<;>intro hc19<;>try simp at hc19
   ·have hpe : l.proc = p := hc19
    refine dv 3 ?_
    refine x8x (b := 1) rfl rfl (by omega) (dv 1 ?_)
    exact ⟨i + 1, ⟨⟨by omega, s6s b2 hl ⟨by rw [hp, hpe], hlo⟩⟩, by omega⟩, [], x6x, x6x, x5x, x5x, rfl⟩
   try have hX : ¬ l.proc = p := hc19
   refine dv 3 ?_
   refine x2x rfl ?_ rfl
   exact congrArg (fun b : Bool => [AV.pv (.bool b)]) (a4g (fun h => by obtain ⟨⟨q1, q2, q3, q4, q5, q6, q7, q8, q9⟩, q0⟩ := h; have := (q8 _ _ hl).1; rw [hp] at this; exact hX (Option.some.inj this).symm))
  have fN : e7o n := a3d b2 (by omega)
  refine dv 5 fun K K' => ?_
  refine x4x (ι := Nat) (fun j γ3 => [(5, pI (j : Int))]) (fun j γ3 => []) (fun j => j ≤ (q2q n.id 4).length ∧ c9p n.lanes (fun j l => ∀ p, (q2q n.id 4)[j]? = some p → l.done.length ≤ same l.done (a1e n p) ∧ (a1e n p).length ≤ 100) j) (fun j => (q2q n.id 4).length - j) (q6q [1, 3] rfl) (u8u 0 rfl HE.nil) 0 ⟨by omega, a1p⟩ [] x6x x5x rfl fun j γ3 hi => ?_
  obtain ⟨d1, d2⟩ := hi
  refine dc 6 (fun K K' => aS ?_ ?_)<;>intro u<;>try simp at u
  ·have fC := fun (i : Nat) p l (a : (q2q n.id 4)[i]? = some p) (b : n.lanes[i]? = some l) => a3d d2 (by omega) i l b p a
   refine dv 4 ?_
   refine x2x rfl ?_ rfl
   exact congrArg (fun b : Bool => [AV.pv (.bool b)]) (e2y ⟨⟨⟨f1, f2, f3, f4, fF.2.2.1, fF.2.2.2.1, fF.2.2.2.2.1⟩, f5, f6, fO, fL, fF.1, fF.2.1, fN, fF.2.2.2.2.2⟩, fC⟩)
  obtain ⟨l, hl⟩ := gE n.lanes j
  obtain ⟨p, hp⟩ := gE (q2q n.id 4) j
  obtain ⟨hdl, _⟩ := a2n (fN j l hl).2
  refine dv 15 fun K K' => ?_
  refine x0x rfl rfl rfl (a4y c n p (by have := c9r f5 (by omega) fN; have := c9s fF.1 fF.2.1 fF.2.2.2.2.2; omega) (by omega) fF.1) ?_
  refine x0x rfl rfl rfl (b0v ..) (dc 9 (aS ?_ ?_))<;>intro u<;>try simp at u
  ·refine dv 14 ?_
   refine x2x rfl ?_ rfl
   exact congrArg (fun b : Bool => [AV.pv (.bool b)]) (a4g (fun h => by obtain ⟨⟨q1, q2, q3, q4, q5, q6, q7, q8, q9⟩, q0⟩ := h; have := q0 _ _ _ hp hl; omega))
  refine dv 6 ?_
  refine x0x rfl rfl rfl (a4y c n p (by have := c9r f5 (by omega) fN; have := c9s fF.1 fF.2.1 fF.2.2.2.2.2; omega) (by omega) fF.1) ?_
  refine dv 1 ?_
  refine x0x rfl rfl rfl (a4j ..) (dc 2 (aS ?_ ?_))<;>intro u<;>try simp at u
  ·refine dv 3 ?_
   refine x8x (b := 1) rfl rfl (by omega) (dv 1 ?_)
   exact ⟨j + 1, ⟨⟨by omega, s6s d2 hl (fun p2 hp2 => by rw [hp] at hp2; cases hp2; omega)⟩, by omega⟩, [], x6x, x6x, x5x, x5x, rfl⟩
  refine dv 3 ?_
  refine x2x rfl ?_ rfl
  exact congrArg (fun b : Bool => [AV.pv (.bool b)]) (a4g (fun h => by obtain ⟨⟨q1, q2, q3, q4, q5, q6, q7, q8, q9⟩, q0⟩ := h; have := q0 _ _ _ hp hl; omega))
end
section
theorem a9q (c : Bool) (n : Nd) (t : Nat) (ht : t < 3) (hk3 : n.known.length = 3) (hs : (r2r n).length ≤ 5000000) (hlen : n.lanes.length ≤ 1048576) : a0t Tryz.prog 135 [.agg (u1u c n), .pv (.int .i64 (t : Int))] (q3q true (a1v n (t : Int))) := by
 refine pX Tryz.f135 [q3q true (a1v n (t : Int))] 5 ?_
 obtain ⟨kn, hkn⟩ := gE n.known t
 rw [c4j hkn]
 refine dv 1 ?_
 refine y0y (id := 0) rfl rfl rfl (dv 3 ?_)
 refine rlM [4] [_] (a7f c n (by omega) hlen) rfl rfl rfl ?_
 refine dv 1 ?_
 refine p7p 5 rfl rfl (fun _ => rfl) ?_
 refine dv 1 ?_
 refine y1y (id := 1) u3u rfl z2z rfl (dv 5 fun K K' => ?_)
 refine x4x (ι := Nat) (fun j γ1 => [(6, .ref 1 (γ1 1)), (7, pI (j : Int))]) (fun j γ1 => [(1, ((γ1 1), .row 56 7 ((((r2r n).take j).filter (a3s (t : Int) kn)).map y9y))), (2, ((γ1 2), .dead)), (3, ((γ1 3), .dead))]) (fun j => j ≤ (r2r n).length) (fun j => (r2r n).length - j) (q6q [1, 2, 5] rfl) (a0p [0, 4] rfl) 0 (by omega) [0, _, _, _] x6x (HE.row rfl (by rw [List.take_zero]; rfl) (HE.kill rfl (HE.kill rfl HE.nil))) rfl fun j γ1 hi => ?_
 refine dc 6 (fun K K' => aS ?_ ?_)<;>intro h<;>try simp at h
 ·obtain rfl : j = (r2r n).length := by omega
  rw [List.take_length]
  refine dv 1 ?_
  refine p7p 6 rfl rfl (fun _ => rfl) ?_
  refine dv 2 ?_
  refine x0x rfl rfl rfl (a1y true ((r2r n).filter (a3s (t : Int) kn)) (Nat.le_trans (List.length_filter_le _ _) (by omega))) ?_
  refine dv 2 ?_
  refine x2x rfl rfl rfl
 obtain ⟨p, hp⟩ := gE (r2r n) j
 have hfl : (((r2r n).take j).filter (a3s (t : Int) kn)).length ≤ 5000000 := Nat.le_trans (List.length_filter_le _ _) (by rw [List.length_take]; omega)
 refine dv 9 fun K K' => ?_
 refine x0x rfl rfl rfl (a0s ..) (dc 3 (aS ?_ ?_))<;>intro hg5<;>try simp at hg5
 ·have hw : ¬ a3s (t : Int) kn p = true := by simp only [a3s, decide_eq_true_eq]; omega
  refine dv 12 ?_
  try have hw : ¬ a3s (t : Int) kn p = true := by simp only [a3s, decide_eq_true_eq]; omega
  refine dv 3 ?_
  refine z8z rfl rfl rfl (dv 1 ?_)
  exact ⟨j + 1, ⟨by omega, by omega⟩, [0, _, _, _], (x7x 6 rfl (Cov.cons' (t := 7) rfl (by rw [x9x (by omega) (by omega)]; rfl) Cov.nil)), x6x, (HE.row rfl (by rw [q9q hp]; rw [if_neg hw, List.append_nil]) (HE.kill rfl (HE.kill rfl HE.nil))), x5x, rfl⟩
 have hw1 : p1p p.to = (t : Int) := hg5
 refine dc 12 (aS ?_ ?_)<;>intro h<;>try simp at h
 ·try have hw : ¬ a3s (t : Int) kn p = true := by simp only [a3s, decide_eq_true_eq]; omega
  refine dv 3 ?_
  refine z8z rfl rfl rfl (dv 1 ?_)
  exact ⟨j + 1, ⟨by omega, by omega⟩, [0, _, _, _], (x7x 6 rfl (Cov.cons' (t := 7) rfl (by rw [x9x (by omega) (by omega)]; rfl) Cov.nil)), x6x, (HE.row rfl (by rw [q9q hp]; rw [if_neg hw, List.append_nil]) (HE.kill rfl (HE.kill rfl HE.nil))), x5x, rfl⟩
 have hw : a3s (t : Int) kn p = true := by simp only [a3s, decide_eq_true_eq]; omega
 refine dv 6 ?_
 refine y2y (id := 2) u3u rfl z2z rfl rfl rfl rfl rfl rfl ?_
 refine y6y (zs := (((r2r n).take j).filter (a3s (t : Int) kn) ++ [p]).map y9y) rfl rfl u3u rfl z2z rfl rfl rfl rfl (by rfl) (z7z _ _ _) (by (simp only [a0e, r7r, a0b, a0d, a0u, a2z, T56] at *; omega)) ?_
 refine dv 3 ?_
 refine z8z rfl rfl rfl (dv 1 ?_)
 exact ⟨j + 1, ⟨by omega, by omega⟩, [0, _, _, _], (x7x 6 rfl (Cov.cons' (t := 7) rfl (by rw [x9x (by omega) (by omega)]; rfl) Cov.nil)), x6x, (HE.row rfl (by rw [q9q hp]; rw [if_pos hw]) (HE.kill rfl (HE.kill rfl HE.nil))), x5x, rfl⟩
end
section
theorem c6w (c c' : Bool) (l l' : List Ev) : a0t Tryz.prog 251 [q3q c l, q3q c' l'] (.pv (.bool (decide (l = l')))) := by
 refine pX Tryz.f251 [.pv (.bool (decide (l = l')))] 0 ?_
 refine u0u 0 rfl fun hlen => ?_
 refine dc 9 (fun K K' => aI ?_ ?_)<;>intro o<;>try simp at o
 ·refine dv 3 ?_
  refine x2x rfl ?_ rfl
  exact e8d (by omega)
 refine dv 5 fun K K' => ?_
 refine x4x (ι := Nat) (fun i γ1 => [(5, pI (i : Int))]) (fun i γ1 => []) (fun i => i ≤ l.length ∧ l.length = l'.length ∧ l.take i = l'.take i) (fun i => l.length - i) (q6q [0, 1] rfl) HE.nil 0 ⟨by omega, by omega, rfl⟩ [] x6x x5x rfl fun i γ1 hi => ?_
 obtain ⟨h1, h2, h3⟩ := hi
 refine dc 6 (fun K K' => aS ?_ ?_)<;>intro o<;>try simp at o
 ·refine dv 4 ?_
  refine x2x rfl ?_ rfl
  exact eqT h3 (by omega) (by omega)
 refine dv 6 fun K K' => ?_
 obtain ⟨x, hx⟩ := gE l i
 refine dv 4 ?_
 obtain ⟨y, hy⟩ := gE l' i
 refine dv 2 ?_
 refine a6o rfl rfl (by intro p q h; cases h) (.inr rfl) (e3v _ _ _ _) ?_
 refine dc 0 (aS ?_ ?_)<;>intro hc7<;>try simp at hc7
 ·have hxy : x = y := by simpa [a1t] using hc7
  refine dv 3 ?_
  refine s5s (.int .i64 ((i + 1 : Nat) : Int)) rfl rfl rfl (a6s rfl (by omega) (by omega) (by have := hlen; omega)) ?_
  refine dv 1 ?_
  exact ⟨i + 1, ⟨⟨by omega, h2, a4w h3 hx hy (by assumption)⟩, by omega⟩, [], x6x, x6x, x5x, x5x, rfl⟩
 have hxy : ¬ x = y := by simpa [a1t] using hc7
 refine dv 3 ?_
 refine x2x rfl ?_ rfl
 exact d7n hx hy (by assumption)
theorem b3l (c : Bool) (a b : List Ev) (g : Int) : a0t Tryz.prog 169 [q3q c a, q3q c b, .pv (.int .i64 g)] (.pv (.int .i64 (chg g a (chg g b 41 a) b))) := by
 refine pX Tryz.f169 [.pv (.int .i64 (chg g a (chg g b 41 a) b))] 0 ?_
 refine dv 8 fun K K' => ?_
 refine x4x (ι := Nat) (fun k γ1 => [(0, q3q c (swK a b k)), (1, q3q c (swK b a k)), (7, pI (f0h g a b k)), (8, pI (k : Int))]) (fun k γ1 => []) (fun k => k ≤ 2) (fun k => 2 - k) (x7x 2 rfl Cov.nil) HE.nil 0 (by omega) [] (Cov.cons' (t := 0) rfl (rfl) (Cov.cons' (t := 1) rfl (rfl) (Cov.cons' (t := 7) rfl (rfl) (x7x 8 rfl Cov.nil)))) x5x rfl fun k γ1 hi => ?_
 refine dc 4 (fun K K' => aS ?_ ?_)<;>intro o<;>try simp at o
 ·obtain rfl : k = 2 := by omega
  refine dv 5 ?_
  exact x2x rfl rfl rfl
 refine dv 7 fun K K' K K' => ?_
 refine u0u 0 rfl fun hlen0 => ?_
 refine x4x (ι := Nat) (fun i γ2 => [(7, pI (chg g (swK b a k) (f0h g a b k) ((swK a b k).take i))), (9, pI (i : Int))]) (fun i γ2 => []) (fun i => i ≤ (swK a b k).length) (fun i => (swK a b k).length - i) (q6q [0, 1, 2, 8] rfl) HE.nil 0 (by omega) [] (Cov.cons' (t := 7) rfl (by rw [List.take_zero]; rfl) (x7x 9 rfl Cov.nil)) x5x rfl fun i γ2 hi => ?_
 refine dc 6 (fun K K' => aS ?_ ?_)<;>intro o<;>try simp at o
 ·obtain rfl : i = (swK a b k).length := by omega
  refine dv 12 ?_
  refine x8x (b := 1) rfl rfl (by omega) (dv 1 ?_)
  exact ⟨k + 1, ⟨by omega, by omega⟩, [], (Cov.cons' (t := 0) rfl (by rw [d7k (by omega)]) (Cov.cons' (t := 1) rfl (by rw [d7k (by omega)]) (Cov.cons' (t := 7) rfl (by rw [e3r (by omega), List.take_length]) (x7x 8 rfl Cov.nil)))), x6x, x5x, x5x, rfl⟩
 obtain ⟨x, hx⟩ := gE (swK a b k) i
 refine dv 9 fun K K' K K' => ?_
 refine u0u 1 rfl fun hlen1 => ?_
 refine x4x (ι := Nat) (fun j γ3 => [(10, .pv (.bool (decide (x ∈ (swK b a k).take j)))), (11, pI (j : Int))]) (fun j γ3 => []) (fun j => j ≤ (swK b a k).length) (fun j => (swK b a k).length - j) (q6q [0, 1, 2, 7, 8, 9] rfl) HE.nil 0 (by omega) [] (Cov.cons' (t := 10) rfl (by simp) (x7x 11 rfl Cov.nil)) x5x rfl fun j γ3 hi => ?_
 refine dc 6 (fun K K' => aI ?_ ?_)<;>intro o<;>try simp at o
 ·obtain ⟨z, hz⟩ := gE (swK b a k) j
  refine dc 6 (fun K K' => aS ?_ ?_)<;>intro hg13<;>try simp at hg13
  ·have hin : x ∈ (swK b a k).take j := by simpa using hg13
   refine dv 12 ?_
   refine x8x (b := 1) rfl rfl (by omega) (dv 1 ?_)
   exact ⟨j + 1, ⟨by omega, by omega⟩, [], (Cov.cons' (t := 10) rfl (by rw [z6z hz]; (simp [hin]; done)) (x7x 11 rfl Cov.nil)), x6x, x5x, x5x, rfl⟩
  have hin : ¬ x ∈ (swK b a k).take j := by simpa using hg13
  refine dv 8 ?_
  refine a6o rfl rfl (by intro a c h; cases h) (.inl rfl) (e3v _ _ _ _) ?_
  refine dv 4 ?_
  refine x8x (b := 1) rfl rfl (by omega) (dv 1 ?_)
  exact ⟨j + 1, ⟨by omega, by omega⟩, [], (Cov.cons' (t := 10) rfl (by rw [z6z hz]; (simp [hin]; rfl)) (x7x 11 rfl Cov.nil)), x6x, x5x, x5x, rfl⟩
 obtain rfl : j = (swK b a k).length := by omega
 rw [List.take_length]
 refine dc 5 (aS ?_ ?_)<;>intro hg14<;>try simp at hg14
 ·have hn : ¬ (g ≤ x.time ∧ x.time < chg g (swK b a k) (f0h g a b k) ((swK a b k).take i) ∧ ¬ x ∈ swK b a k) := fun q => q.2.2 (by simpa using hg14)
  refine dv 20 ?_
  refine x8x (b := 1) rfl rfl (by omega) (dv 1 ?_)
  exact ⟨i + 1, ⟨by omega, by omega⟩, [], (Cov.cons' (t := 7) rfl (by rw [a8m hx, if_neg hn]) (x7x 9 rfl Cov.nil)), x6x, x5x, x5x, rfl⟩
 have hm : ¬ x ∈ swK b a k := by simpa using hg14
 refine dc 9 (aS ?_ ?_)<;>intro o<;>try simp at o
 ·have hn : ¬ (g ≤ x.time ∧ x.time < chg g (swK b a k) (f0h g a b k) ((swK a b k).take i) ∧ ¬ x ∈ swK b a k) := fun q => (by have := q.1; omega)
  refine dv 11 ?_
  refine x8x (b := 1) rfl rfl (by omega) (dv 1 ?_)
  exact ⟨i + 1, ⟨by omega, by omega⟩, [], (Cov.cons' (t := 7) rfl (by rw [a8m hx, if_neg hn]) (x7x 9 rfl Cov.nil)), x6x, x5x, x5x, rfl⟩
 refine dc 8 (aS ?_ ?_)<;>intro o<;>try simp at o
 ·have hn : ¬ (g ≤ x.time ∧ x.time < chg g (swK b a k) (f0h g a b k) ((swK a b k).take i) ∧ ¬ x ∈ swK b a k) := by exact fun q => (by have := q.2.1; omega)
  refine dv 3 ?_
  refine x8x (b := 1) rfl rfl (by omega) (dv 1 ?_)
  exact ⟨i + 1, ⟨by omega, by omega⟩, [], (Cov.cons' (t := 7) rfl (by rw [a8m hx, if_neg hn]) (x7x 9 rfl Cov.nil)), x6x, x5x, x5x, rfl⟩
 have hy : g ≤ x.time ∧ x.time < chg g (swK b a k) (f0h g a b k) ((swK a b k).take i) ∧ ¬ x ∈ swK b a k := ⟨by omega, by omega, hm⟩
 refine dv 9 ?_
 refine x8x (b := 1) rfl rfl (by omega) (dv 1 ?_)
 exact ⟨i + 1, ⟨by omega, by omega⟩, [], (Cov.cons' (t := 7) rfl (by (rw [a8m hx, if_pos hy] <;> rfl)) (x7x 9 rfl Cov.nil)), x6x, x5x, x5x, rfl⟩
theorem b5g (n : Nd) (hw : wk n) : Meth Tryz.prog 171 3 [0, 1, 2] [.agg [pI n.id, .pv (.bool n.up), pI n.inc, pI n.g, .ref 0 0, q3q true n.kept, r0r true n.outs, pI n.led, pI n.version, .ref 1 0, .ref 2 0, pI n.round, pI n.low]] [(0, (0, .row 44 5 ((n.lanes).map (q7q true)))), (1, (0, .row 190 3 ((n.views).map (a2b true)))), (2, (0, .row 3 1 (n.known.map a3e)))] (.agg [pI (nl n (v7v n n.lanes)).id, .pv (.bool (nl n (v7v n n.lanes)).up), pI (nl n (v7v n n.lanes)).inc, pI (nl n (v7v n n.lanes)).g, .ref 0 0, q3q true (nl n (v7v n n.lanes)).kept, r0r true (nl n (v7v n n.lanes)).outs, pI (nl n (v7v n n.lanes)).led, pI (nl n (v7v n n.lanes)).version, .ref 1 0, .ref 2 0, pI (nl n (v7v n n.lanes)).round, pI (nl n (v7v n n.lanes)).low]) [(0, (0, .row 44 5 ((v7v n n.lanes).map (q7q true))))] := by
 refine mX Tryz.f171 [.agg [pI (nl n (v7v n n.lanes)).id, .pv (.bool (nl n (v7v n n.lanes)).up), pI (nl n (v7v n n.lanes)).inc, pI (nl n (v7v n n.lanes)).g, .ref 0 0, q3q true (nl n (v7v n n.lanes)).kept, r0r true (nl n (v7v n n.lanes)).outs, pI (nl n (v7v n n.lanes)).led, pI (nl n (v7v n n.lanes)).version, .ref 1 0, .ref 2 0, pI (nl n (v7v n n.lanes)).round, pI (nl n (v7v n n.lanes)).low]] 3 2 fun γ => ?_
 refine dv 1 ?_
 refine y0y (id := 3) rfl rfl rfl (x3x (id := 4) u9u q1q rfl (dv 4 fun K K' => ?_))
 refine x4x (ι := List La × Bool) (fun p γ1 => [(3, .pv (.bool (p.2)))]) (fun p γ1 => [(0, ((γ 0), .row 44 5 ((p.1).map (q7q true))))]) (fun p => (p.2 = true → v7v n p.1 = v7v n n.lanes) ∧ (p.2 = false → p.1 = v7v n n.lanes) ∧ wk (nl n p.1)) (fun p => 2 * c4w p.1 + p.2.toNat) (q6q [1, 2] rfl) (a0p [1, 2, 3, 4] rfl) (n.lanes, true) ⟨fun _ => rfl, fun h => (by cases h), hw⟩ [] x6x x5x rfl fun p γ1 hi => ?_
 obtain ⟨ls, q⟩ := p
 obtain ⟨h1, h2, h3⟩ := hi
 dsimp only at h1 h2 h3 ⊢
 refine dc 3 (fun K K' => aS ?_ ?_)<;>intro hc3<;>try simp at hc3
 ·have hq : q = false := by simpa using hc3
  subst hq
  have hfin : ls = v7v n n.lanes := h2 rfl
  refine dv 4 ?_
  subst hfin
  refine dv 1 ?_
  exact ⟨[γ 0, γ 1, γ 2], rfl, rfl, x5x⟩
 have hq : q = true := hc3
 subst hq
 refine dv 7 ?_
 refine x4x (ι := Nat) (fun i γ2 => [(3, .pv (.bool (a7z n ls i))), (4, pI (i : Int))]) (fun i γ2 => [(0, ((γ 0), .row 44 5 ((a0r n ls i).map (q7q true))))]) (fun i => i ≤ ls.length) (fun i => ls.length - i) (q6q [1, 2] rfl) (a0p [1, 2, 3, 4] rfl) 0 (by omega) [] (Cov.cons' (t := 3) rfl (rfl) (x7x 4 rfl Cov.nil)) x5x rfl fun i γ2 hi => ?_
 refine dc 7 (fun K K' => aS ?_ ?_)<;>intro o<;>try simp at o
 ·have hpl : (a0r n ls i).length = ls.length := b2s n ls i
  obtain rfl : i = ls.length := by omega
  refine dv 1 ?_
  exact ⟨(a0r n ls ls.length, a7z n ls ls.length), ⟨⟨fun h => (b2t h).trans (h1 rfl), fun h => (a8l h).trans (h1 rfl), b7n h3 _⟩, (e3p n ls ls.length)⟩, [], x6x, x6x, x5x, x5x, rfl⟩
 have hpl : (a0r n ls i).length = ls.length := b2s n ls i
 obtain ⟨l, hp⟩ := gE (a0r n ls i) i
 have h4 := b7n h3 i
 have h41 : (a0r n ls i).length ≤ 4 := h4.1
 have hb4 := h4.2.2.2.2.1 l (List.mem_of_getElem? hp)
 refine dv 7 fun K K' => ?_
 refine z0z (j := i) rfl rfl a7v rfl a0m rfl rfl (y7y hp) ?_
 refine dv 5 ?_
 refine z0z (j := i) rfl rfl a7v rfl a0m rfl rfl (y7y hp) ?_
 refine dv 2 ?_
 refine b7h rfl rfl rfl (c4z (n := nl n (a0r n ls i)) rfl rfl rfl (.cl rfl .nil)) (a4y false (nl n (a0r n ls i)) l.proc (d5a h4) (by have := h4.1; omega) h4.2.2.1) (b1y _) ?_
 refine x0x rfl rfl rfl (b0v true true l (a1e (nl n (a0r n ls i)) l.proc)) ?_
 refine dv 6 ?_
 refine z0z (j := i) rfl rfl a7v rfl a0m rfl rfl (y7y hp) ?_
 refine dc 4 (aS ?_ ?_)<;>intro o<;>try simp at o
 ·have hk := d5c (n := n) hp (by show ¬ same l.done (a1e (nl n (a0r n ls i)) l.proc) < l.done.length; omega)
  refine dv 3 ?_
  refine z8z rfl rfl rfl (dv 1 ?_)
  exact ⟨i + 1, ⟨by omega, by omega⟩, [], (Cov.cons' (t := 3) rfl (by rw [b5t, hk.2, Bool.or_false]) (Cov.cons' (t := 4) rfl (by rw [x9x (by omega) (by omega)]; rfl) Cov.nil)), x6x, (HE.row rfl (by rw [b1v, hk.1]) HE.nil), x5x, rfl⟩
 have hk := d5b (n := n) hp (by show same l.done (a1e (nl n (a0r n ls i)) l.proc) < l.done.length; omega)
 refine dv 7 ?_
 refine z0z (j := i) rfl rfl a7v rfl a0m rfl rfl (y7y hp) ?_
 refine dv 2 ?_
 refine x0x rfl rfl rfl (a3l true l 0 (keep n (a0r n ls i) l) (by omega) (by omega) (by have := f2l n (a0r n ls i) l; omega) (fun p hp => by have := hb4.2 p hp; omega)) ?_
 refine z0z (j := i) rfl rfl a7v rfl a0m rfl rfl (y7y hp) ?_
 refine v6v (el' := a0q l 0 (keep n (a0r n ls i) l)) rfl rfl a0m rfl rfl rfl hp rfl (s4s rfl) rfl rfl ?_
 refine dv 4 ?_
 refine z8z rfl rfl rfl (dv 1 ?_)
 exact ⟨i + 1, ⟨by omega, by omega⟩, [], (Cov.cons' (t := 3) rfl (by rw [b5t, hk.2, Bool.or_true]) (Cov.cons' (t := 4) rfl (by rw [x9x (by omega) (by omega)]; rfl) Cov.nil)), x6x, (HE.row rfl (by rw [b1v, hk.1]) HE.nil), x5x, rfl⟩
theorem b3m (c : Bool) (n m : Nd) (hn : wk n) (hm : wk m) (hid : n.id = m.id) (hv : 0 ≤ n.version ∧ n.version ≤ 9998) : Meth Tryz.prog 170 3 [0, 1, 2] [.agg (u1u c n), .agg [pI m.id, .pv (.bool m.up), pI m.inc, pI m.g, .ref 0 0, q3q true m.kept, r0r true m.outs, pI m.led, pI m.version, .ref 1 0, .ref 2 0, pI m.round, pI m.low]] [(0, (0, .row 44 5 ((m.lanes).map (q7q true)))), (1, (0, .row 190 3 ((m.views).map (a2b true)))), (2, (0, .row 3 1 (m.known.map a3e)))] (.agg [pI ({ m with version := a4o n m 3 } : Nd).id, .pv (.bool ({ m with version := a4o n m 3 } : Nd).up), pI ({ m with version := a4o n m 3 } : Nd).inc, pI ({ m with version := a4o n m 3 } : Nd).g, .ref 0 0, q3q true ({ m with version := a4o n m 3 } : Nd).kept, r0r true ({ m with version := a4o n m 3 } : Nd).outs, pI ({ m with version := a4o n m 3 } : Nd).led, pI ({ m with version := a4o n m 3 } : Nd).version, .ref 1 0, .ref 2 0, pI ({ m with version := a4o n m 3 } : Nd).round, pI ({ m with version := a4o n m 3 } : Nd).low]) [] := by
 refine mX Tryz.f170 [.agg [pI ({ m with version := a4o n m 3 } : Nd).id, .pv (.bool ({ m with version := a4o n m 3 } : Nd).up), pI ({ m with version := a4o n m 3 } : Nd).inc, pI ({ m with version := a4o n m 3 } : Nd).g, .ref 0 0, q3q true ({ m with version := a4o n m 3 } : Nd).kept, r0r true ({ m with version := a4o n m 3 } : Nd).outs, pI ({ m with version := a4o n m 3 } : Nd).led, pI ({ m with version := a4o n m 3 } : Nd).version, .ref 1 0, .ref 2 0, pI ({ m with version := a4o n m 3 } : Nd).round, pI ({ m with version := a4o n m 3 } : Nd).low]] 3 3 fun γ => ?_
 refine dv 1 ?_
 refine y0y (id := 3) rfl rfl rfl (y0y (id := 4) rfl rfl rfl (x3x (id := 5) u9u q1q rfl (dv 4 fun K K' => ?_)))
 refine x4x (ι := Nat) (fun k γ1 => [(5, pI (k : Int))]) (fun k γ1 => [(4, ((0 + 1), .box 65 [pI m.id, .pv (.bool m.up), pI m.inc, pI m.g, .ref 0 (γ 0), q3q true m.kept, r0r true m.outs, pI m.led, pI (a4o n m k), .ref 1 (γ 1), .ref 2 (γ 2), pI m.round, pI m.low]))]) (fun k => k ≤ 3) (fun k => 3 - k) (q6q [2, 3, 4] rfl) (a0p [0, 1, 2, 3, 5] rfl) 0 (by omega) [] x6x (HE.box rfl (by rfl) HE.nil) rfl fun k γ1 hi => ?_
 refine dc 4 (fun K K' => aS ?_ ?_)<;>intro o<;>try simp at o
 ·obtain rfl : k = 3 := by omega
  refine dv 5 ?_
  exact ⟨[γ 0, γ 1, γ 2], rfl, rfl, x5x⟩
 refine dc 9 (fun K K' => aS ?_ ?_)<;>intro hg5<;>try simp at hg5
 ·have hs : (k : Int) = m.id ∨ a1v n (k : Int) = a1v m (k : Int) := .inl hg5
  refine dv 12 ?_
  refine z8z rfl rfl rfl (dv 1 ?_)
  exact ⟨k + 1, ⟨by omega, by omega⟩, [], (Cov.cons' (t := 5) rfl (by rw [x9x (by omega) (by omega)]; rfl) Cov.nil), x6x, (HE.box rfl (by rw [e3q hid hs]) HE.nil), x5x, rfl⟩
 have hi0 : ¬ (k : Int) = m.id := hg5
 refine dv 2 ?_
 refine x0x rfl rfl rfl (a9q c n k (by omega) hn.2.2.2.1 (by have := c9x hn; omega) (by have := hn.1; omega)) ?_
 refine dv 2 ?_
 refine b7h rfl rfl rfl (c4z (n := ({ m with version := a4o n m k } : Nd)) rfl rfl rfl (.cl rfl .nil)) (a9q false ({ m with version := a4o n m k } : Nd) k (by omega) hm.2.2.2.1 (by have := c9x hm; show (r2r m).length ≤ 5000000; omega) (by have := hm.1; show m.lanes.length ≤ 1048576; omega)) (b1y _) ?_
 refine dv 0 ?_
 refine x0x rfl rfl rfl (c6w true true (a1v n (k : Int)) (a1v m (k : Int))) ?_
 refine dc 2 (aS ?_ ?_)<;>intro hc6<;>try simp at hc6
 ·have hs : (k : Int) = m.id ∨ a1v n (k : Int) = a1v m (k : Int) := .inr hc6
  refine dv 3 ?_
  refine z8z rfl rfl rfl (dv 1 ?_)
  exact ⟨k + 1, ⟨by omega, by omega⟩, [], (Cov.cons' (t := 5) rfl (by rw [x9x (by omega) (by omega)]; rfl) Cov.nil), x6x, (HE.box rfl (by rw [e3q hid hs]) HE.nil), x5x, rfl⟩
 have hd : ¬ a1v n (k : Int) = a1v m (k : Int) := hc6
 refine dv 3 ?_
 refine s5s (.int .i64 (n.version + 1)) rfl rfl rfl (a6s rfl rfl (by omega) (by omega)) ?_
 refine dv 4 ?_
 refine z8z rfl rfl rfl (dv 1 ?_)
 exact ⟨k + 1, ⟨by omega, by omega⟩, [], (Cov.cons' (t := 5) rfl (by rw [x9x (by omega) (by omega)]; rfl) Cov.nil), x6x, (HE.box rfl (by (rw [f2o hid hi0 hd] <;> rfl)) HE.nil), x5x, rfl⟩
end
section
theorem c5o (apps : List Ap) (n : Nd) (q : Int) (hn : ndI n) (hA : a7n apps) : MethE Tryz.prog 321 0 [a5u true apps, .agg (u1u true n), .pv (.int .i64 q)] [] (ι := Nd × Bool) (fun S' => ndI S'.1) (fun S' => []) (fun S' => .tup [.agg (u1u true S'.1), .pv (.bool (S'.2))]) (fun S' => []) := by
 refine mE (ι := Nd × Bool) Tryz.f321 (fun S' => [.agg (u1u true S'.1), .pv (.bool (S'.2))]) 0 10 fun γ => ?_
 have fK := hn.1
 have fS := fK.1
 have fB := w5w fS
 have fb := c0x fS
 have hb : ∀ a ∈ apps, ∀ r ∈ a.rules, r.ops.length ≤ 1048576 := fun a ha r hr => by obtain ⟨i, hi⟩ := List.getElem?_of_mem hr; have := ((hA.2 a ha).2 i r hi).2.1.2.1; omega
 refine dv 1 ?_
 refine y0y (id := 0) rfl rfl rfl (x3x (id := 1) u9u q1q rfl (dv 4 fun K K' => ?_))
 refine x0x rfl rfl rfl (p2p true n) (dc 1 (aI ?_ ?_))<;>intro hc2<;>try simp at hc2
 ·exact absurd fK (a1h (by simpa using hc2))
 refine dv 1 ?_
 refine a0i fun B X0 w0 => ?_
 refine txR 2 rfl rfl (dv 2 ?_)
 refine txM [] [] (c6u n q (by omega)) rfl rfl rfl rfl fun j hj => ?_
 refine txR 1 rfl rfl (dv 1 ?_)
 refine u2u rfl (dc 6 (fun K K' => aS ?_ ?_))<;>intro o<;>try simp at o
 ·refine dv 16 ?_
  refine rlM [7, 8, 9] [_, _, _] (y5y true n fb) rfl rfl rfl ?_
  refine dv 2 ?_
  (refine v9v (b := c0e true n.lanes) 1 4 rfl rfl rfl (.ref rfl (Le.ow_map _ (fun _ => rfl) (fun _ => rfl)) .nil) rfl rfl rfl rfl ?_; refine v9v (b := c1z true n.views) 1 9 rfl rfl rfl (.ref rfl (Le.ow_map _ (fun _ => rfl) (fun _ => rfl)) .nil) rfl rfl rfl rfl ?_; refine v9v (b := a4p true n.known) 1 10 rfl rfl rfl (.ref rfl (Le.ow_map _ (fun _ => rfl) (fun _ => rfl)) .nil) rfl rfl rfl rfl ?_)
  refine dv 1 ?_
  exact ⟨(n, false), hn, [], rfl, rfl, x5x⟩
 refine dv 1 ?_
 refine x0x rfl rfl rfl (b0j true apps hb) (dc 3 (aS ?_ ?_))<;>intro o<;>try simp at o
 ·refine dv 11 ?_
  refine rlM [7, 8, 9] [_, _, _] (y5y true n fb) rfl rfl rfl ?_
  refine dv 2 ?_
  (refine v9v (b := c0e true n.lanes) 1 4 rfl rfl rfl (.ref rfl (Le.ow_map _ (fun _ => rfl) (fun _ => rfl)) .nil) rfl rfl rfl rfl ?_; refine v9v (b := c1z true n.views) 1 9 rfl rfl rfl (.ref rfl (Le.ow_map _ (fun _ => rfl) (fun _ => rfl)) .nil) rfl rfl rfl rfl ?_; refine v9v (b := a4p true n.known) 1 10 rfl rfl rfl (.ref rfl (Le.ow_map _ (fun _ => rfl) (fun _ => rfl)) .nil) rfl rfl rfl rfl ?_)
  refine dv 1 ?_
  exact ⟨(n, false), hn, [], rfl, rfl, x5x⟩
 refine dc 4 (aS ?_ ?_)<;>intro o<;>try simp at o
 ·refine dv 7 ?_
  refine rlM [7, 8, 9] [_, _, _] (y5y true n fb) rfl rfl rfl ?_
  refine dv 2 ?_
  (refine v9v (b := c0e true n.lanes) 1 4 rfl rfl rfl (.ref rfl (Le.ow_map _ (fun _ => rfl) (fun _ => rfl)) .nil) rfl rfl rfl rfl ?_; refine v9v (b := c1z true n.views) 1 9 rfl rfl rfl (.ref rfl (Le.ow_map _ (fun _ => rfl) (fun _ => rfl)) .nil) rfl rfl rfl rfl ?_; refine v9v (b := a4p true n.known) 1 10 rfl rfl rfl (.ref rfl (Le.ow_map _ (fun _ => rfl) (fun _ => rfl)) .nil) rfl rfl rfl rfl ?_)
  refine dv 1 ?_
  exact ⟨(n, false), hn, [], rfl, rfl, x5x⟩
 refine dv 2 ?_
 refine x0x rfl rfl rfl (u6u ..) (dc 2 (aI ?_ ?_))<;>intro o<;>try simp at o
 ·refine dv 2 ?_
  refine rlM [7, 8, 9] [_, _, _] (y5y true n fb) rfl rfl rfl ?_
  refine dv 2 ?_
  (refine v9v (b := c0e true n.lanes) 1 4 rfl rfl rfl (.ref rfl (Le.ow_map _ (fun _ => rfl) (fun _ => rfl)) .nil) rfl rfl rfl rfl ?_; refine v9v (b := c1z true n.views) 1 9 rfl rfl rfl (.ref rfl (Le.ow_map _ (fun _ => rfl) (fun _ => rfl)) .nil) rfl rfl rfl rfl ?_; refine v9v (b := a4p true n.known) 1 10 rfl rfl rfl (.ref rfl (Le.ow_map _ (fun _ => rfl) (fun _ => rfl)) .nil) rfl rfl rfl rfl ?_)
  refine dv 1 ?_
  exact ⟨(n, false), hn, [], rfl, rfl, x5x⟩
 have hv9 : n.version < 9999 := by omega
 obtain ⟨i, l, hji, hl, hlp⟩ := hj.resolve_left (by omega)
 subst hji
 have hln := b9k fK hl
 have hp3 := (d3h hln.2.1).1
 obtain ⟨qn, rfl⟩ : ∃ qn : Nat, q = (qn : Int) := ⟨q.toNat, by omega⟩
 have hA4 := hA.1
 obtain ⟨a, ha⟩ := gE apps qn
 have hap := hA.2 a (List.mem_of_getElem? ha)
 have hv0 := fS.1.2.2.2.2.1.1
 refine dv 1 ?_
 refine d5h 12 (b6j v3v 0 12 rfl rfl ?_)
 refine dv 3 ?_
 refine v4v (out := .agg (b9m true a)) rfl a5z rfl ?_
 refine dv 4 ?_
 refine v4v (out := .agg (q7q true l)) rfl a0m rfl ?_
 refine dv 2 ?_
 refine x0x rfl rfl rfl (a4y true n (qn : Int) (b1u fS) (by omega) fS.2.2.2.2.2.1) ?_
 refine b6j v3v 16 1 rfl rfl ?_
 refine x3x (id := 2) a0m a6r rfl (b7r c2b (by rfl) [] [] (c5l a l (a1e n (qn : Int)) hap hln.2.1) rfl rfl rfl rfl (by decide) rfl rfl (by repeat (exact InH.nil)) (fun _ => (by (simp only [pI, a2f, a2g, c0d, gl, nx, a6z, Nat.beq]; rfl))) (fun _ => (by (simp only [pI, a2f, a2g, c0d, gl, nx, a6z, Nat.beq]; rfl))) (l, false) (by intro h; simp at h) fun r hr => ?_)
 refine b6k v3v 13 3 rfl rfl ?_
 refine dv 3 ?_
 refine b6k v3v 17 2 rfl rfl ?_
 refine dv 2 ?_
 refine c5e (by kernel_rfl) ?_
 refine dc 4 (fun K K' => aI ?_ ?_)<;>intro hc9<;>try simp at hc9
 ·refine dv 2 ?_
  refine rlM [7, 8, 9] [_, _, _] (y5y true n fb) rfl rfl rfl ?_
  refine dv 2 ?_
  (refine v9v (b := c0e true n.lanes) 1 4 rfl rfl rfl (.ref rfl (Le.ow_map _ (fun _ => rfl) (fun _ => rfl)) .nil) rfl rfl rfl rfl ?_; refine v9v (b := c1z true n.views) 1 9 rfl rfl rfl (.ref rfl (Le.ow_map _ (fun _ => rfl) (fun _ => rfl)) .nil) rfl rfl rfl rfl ?_; refine v9v (b := a4p true n.known) 1 10 rfl rfl rfl (.ref rfl (Le.ow_map _ (fun _ => rfl) (fun _ => rfl)) .nil) rfl rfl rfl rfl ?_)
  refine dv 1 ?_
  exact ⟨(n, false), hn, [], rfl, rfl, x5x⟩
 obtain ⟨p, hp1, hroom, hpb⟩ := hr hc9
 rw [hp1]
 have hwM := e8x (d2u fS) hl hroom hpb
 have hoM := e5o hn.2 hl hpb
 have hwA : wk (nl (nl n (n.lanes.set i (a2y l p))) (v7v (nl n (n.lanes.set i (a2y l p))) (nl n (n.lanes.set i (a2y l p))).lanes)) := c2t _ (Nat.le_refl _) hwM
 refine dv 3 ?_
 refine rlM [4, 5, 6] [_, _, _] (y5y true n fb) rfl rfl rfl ?_
 refine x3x (id := 3) u9u q1q rfl (dv 6 ?_)
 refine z0z (j := i) rfl rfl a7v rfl a0m rfl rfl (y7y hl) ?_
 refine v6v (el' := a2y l p) rfl rfl a0m rfl rfl rfl hl rfl (s4s rfl) rfl rfl ?_
 refine dv 3 ?_
 refine rlM [4, 5, 6] [_, _, _] (b5g (nl n (n.lanes.set i (a2y l p))) hwM) rfl rfl rfl ?_
 refine rlM [4, 5, 6] [_, _, _] (b3m true n (nl (nl n (n.lanes.set i (a2y l p))) (v7v (nl n (n.lanes.set i (a2y l p))) (nl n (n.lanes.set i (a2y l p))).lanes)) (d2u fS) hwA rfl ⟨hv0, by omega⟩) rfl rfl rfl ?_
 refine dv 2 fun K K' => ?_
 refine v9v (b := c0e true (a9n n (nl n (n.lanes.set i (a2y l p)))).lanes) 3 4 rfl rfl rfl (.ref rfl (Le.ow_map _ (fun _ => rfl) (fun _ => rfl)) .nil) rfl rfl rfl rfl ?_
 refine v9v (b := c1z true (a9n n (nl n (n.lanes.set i (a2y l p)))).views) 3 9 rfl rfl rfl (.ref rfl (Le.ow_map _ (fun _ => rfl) (fun _ => rfl)) .nil) rfl rfl rfl rfl ?_
 refine v9v (b := a4p true (a9n n (nl n (n.lanes.set i (a2y l p)))).known) 3 10 rfl rfl rfl (.ref rfl (Le.ow_map _ (fun _ => rfl) (fun _ => rfl)) .nil) rfl rfl rfl rfl ?_
 refine dv 2 ?_
 refine x0x rfl rfl rfl (p2p true (a9n n (nl n (n.lanes.set i (a2y l p))))) ?_
 refine dc 1 (aI ?_ ?_)<;>intro hc11<;>try simp at hc11
 ·refine dv 2 ?_
  refine rlM [7, 8, 9] [_, _, _] (y5y true n fb) rfl rfl rfl ?_
  refine dv 2 ?_
  (refine v9v (b := c0e true n.lanes) 1 4 rfl rfl rfl (.ref rfl (Le.ow_map _ (fun _ => rfl) (fun _ => rfl)) .nil) rfl rfl rfl rfl ?_; refine v9v (b := c1z true n.views) 1 9 rfl rfl rfl (.ref rfl (Le.ow_map _ (fun _ => rfl) (fun _ => rfl)) .nil) rfl rfl rfl rfl ?_; refine v9v (b := a4p true n.known) 1 10 rfl rfl rfl (.ref rfl (Le.ow_map _ (fun _ => rfl) (fun _ => rfl)) .nil) rfl rfl rfl rfl ?_)
  refine dv 1 ?_
  exact ⟨(n, false), hn, [], rfl, rfl, x5x⟩
 have fK2 : y3y (a9n n (nl n (n.lanes.set i (a2y l p)))) := a1d.1 (by simpa using hc11)
 have fb2 := c0x fK2.1
 refine dv 3 ?_
 refine rlM [7, 8, 9] [_, _, _] (y5y true (a9n n (nl n (n.lanes.set i (a2y l p)))) fb2) rfl rfl rfl ?_
 refine dv 2 ?_
 (refine v9v (b := c0e true (a9n n (nl n (n.lanes.set i (a2y l p)))).lanes) 1 4 rfl rfl rfl (.ref rfl (Le.ow_map _ (fun _ => rfl) (fun _ => rfl)) .nil) rfl rfl rfl rfl ?_; refine v9v (b := c1z true (a9n n (nl n (n.lanes.set i (a2y l p)))).views) 1 9 rfl rfl rfl (.ref rfl (Le.ow_map _ (fun _ => rfl) (fun _ => rfl)) .nil) rfl rfl rfl rfl ?_; refine v9v (b := a4p true (a9n n (nl n (n.lanes.set i (a2y l p)))).known) 1 10 rfl rfl rfl (.ref rfl (Le.ow_map _ (fun _ => rfl) (fun _ => rfl)) .nil) rfl rfl rfl rfl ?_)
 refine dv 1 ?_
 exact ⟨((a9n n (nl n (n.lanes.set i (a2y l p)))), true), ⟨fK2, c8h hoM⟩, [], rfl, rfl, x5x⟩
end
section
theorem b6q (c : Bool) (l : List Int) : a0t Tryz.prog 259 [a4p c l] (.pv (.bool (decide (c6q l)))) := by
 refine pX Tryz.f259 [.pv (.bool (decide (c6q l)))] 0 ?_
 refine u0u 0 rfl fun hlen => ?_
 refine dc 8 (fun K K' => aS ?_ ?_)<;>intro o<;>try simp at o
 ·refine dv 4 ?_
  have hL : l.length = 0 ∨ l.length = 3 := by (simp_all; done)
  refine dv 5 fun K K' => ?_
  refine x4x (ι := Nat) (fun i γ2 => [(3, pI (i : Int))]) (fun i γ2 => []) (fun i => i ≤ l.length ∧ c9p l (fun _ v => 0 ≤ v ∧ v ≤ 9999) i) (fun i => l.length - i) (x7x 0 rfl Cov.nil) HE.nil 0 ⟨by omega, a1p⟩ [] x6x x5x rfl fun i γ2 hi => ?_
  obtain ⟨h1, h2⟩ := hi
  refine dc 6 (fun K K' => aS ?_ ?_)<;>intro o<;>try simp at o
  ·have hall := a3d h2 (by omega)
   refine dv 4 ?_
   refine x2x rfl ?_ rfl
   exact kT ⟨hL, fun v hv => by obtain ⟨i, hi⟩ := List.getElem?_of_mem hv; exact hall i v hi⟩
  obtain ⟨v, hv⟩ := gE l i
  refine dv 8 fun K K' => ?_
  refine x0x rfl rfl rfl (u6u ..) (x0x rfl rfl rfl (z1z ..) (dc 1 (aS ?_ ?_)))<;>intro o<;>try simp at o
  ·have hb : 0 ≤ v ∧ v ≤ 9999 := by omega
   refine dv 3 ?_
   refine x8x (b := 1) rfl rfl (by omega) (dv 1 ?_)
   exact ⟨i + 1, ⟨⟨by omega, s6s h2 hv hb⟩, by omega⟩, [], x6x, x6x, x5x, x5x, rfl⟩
  have hX2 : ¬ (0 ≤ v ∧ v ≤ 9999) := by omega
  refine dv 3 ?_
  refine x2x rfl ?_ rfl
  exact kF (fun h => hX2 (h.2 v (List.mem_of_getElem? hv)))
 refine dc 4 (aI ?_ ?_)<;>intro o<;>try simp at o
 ·have hX : ¬ (l.length = 0 ∨ l.length = 3) := by (rintro (h | h); exact absurd (List.length_eq_zero_iff.1 h) ‹_›; omega)
  refine dv 3 ?_
  refine x2x rfl ?_ rfl
  exact kF (fun h => hX h.1)
 have hL : l.length = 0 ∨ l.length = 3 := by omega
 refine dv 5 fun K K' => ?_
 refine x4x (ι := Nat) (fun i γ1 => [(3, pI (i : Int))]) (fun i γ1 => []) (fun i => i ≤ l.length ∧ c9p l (fun _ v => 0 ≤ v ∧ v ≤ 9999) i) (fun i => l.length - i) (x7x 0 rfl Cov.nil) HE.nil 0 ⟨by omega, a1p⟩ [] x6x x5x rfl fun i γ1 hi => ?_
 obtain ⟨h1, h2⟩ := hi
 refine dc 6 (fun K K' => aS ?_ ?_)<;>intro o<;>try simp at o
 ·have hall := a3d h2 (by omega)
  refine dv 4 ?_
  refine x2x rfl ?_ rfl
  exact kT ⟨hL, fun v hv => by obtain ⟨i, hi⟩ := List.getElem?_of_mem hv; exact hall i v hi⟩
 obtain ⟨v, hv⟩ := gE l i
 refine dv 8 fun K K' => ?_
 refine x0x rfl rfl rfl (u6u ..) (x0x rfl rfl rfl (z1z ..) (dc 1 (aS ?_ ?_)))<;>intro o<;>try simp at o
 ·have hb : 0 ≤ v ∧ v ≤ 9999 := by omega
  refine dv 3 ?_
  refine x8x (b := 1) rfl rfl (by omega) (dv 1 ?_)
  exact ⟨i + 1, ⟨⟨by omega, s6s h2 hv hb⟩, by omega⟩, [], x6x, x6x, x5x, x5x, rfl⟩
 have hX2 : ¬ (0 ≤ v ∧ v ≤ 9999) := by omega
 refine dv 3 ?_
 refine x2x rfl ?_ rfl
 exact kF (fun h => hX2 (h.2 v (List.mem_of_getElem? hv)))
theorem b3a (c : Bool) (w : Wo) : a0t Tryz.prog 182 [.agg (w1w c w)] (.pv (.bool (decide (a4m w)))) := by
 refine pX Tryz.f182 [.pv (.bool (decide (a4m w)))] 1 ?_
 refine dv 1 ?_
 refine y0y (id := 0) rfl rfl rfl (dv 4 ?_)
 refine x0x rfl rfl rfl (z1z ..) (dc 1 (aS ?_ ?_))<;>intro o<;>try simp at o
 ·have hX : ¬ a6g w := by unfold a6g; omega
  refine dv 54 ?_
  refine x2x rfl ?_ rfl
  exact kF (fun h => hX h.1)
 refine dv 2 ?_
 refine x0x rfl rfl rfl (z1z ..) (dc 2 (aS ?_ ?_))<;>intro o<;>try simp at o
 ·have hX : ¬ a6g w := by unfold a6g; omega
  refine dv 49 ?_
  refine x2x rfl ?_ rfl
  exact kF (fun h => hX h.1)
 refine dv 2 ?_
 refine x0x rfl rfl rfl (z1z ..) (dc 2 (aS ?_ ?_))<;>intro o<;>try simp at o
 ·have hX : ¬ a6g w := by unfold a6g; omega
  refine dv 44 ?_
  refine x2x rfl ?_ rfl
  exact kF (fun h => hX h.1)
 refine dv 2 ?_
 refine x0x rfl rfl rfl (u6u ..) (dv 0 ?_)
 refine x0x rfl rfl rfl (z1z ..) (dc 2 (aS ?_ ?_))<;>intro o<;>try simp at o
 ·have hX : ¬ a6g w := by unfold a6g; omega
  refine dv 38 ?_
  refine x2x rfl ?_ rfl
  exact kF (fun h => hX h.1)
 refine dv 2 ?_
 refine x0x rfl rfl rfl (u6u ..) (dv 0 ?_)
 refine x0x rfl rfl rfl (z1z ..) (dc 2 (aS ?_ ?_))<;>intro o<;>try simp at o
 ·have hX : ¬ a6g w := by unfold a6g; omega
  refine dv 32 ?_
  refine x2x rfl ?_ rfl
  exact kF (fun h => hX h.1)
 refine dv 2 ?_
 refine x0x rfl rfl rfl (u6u ..) (dv 0 ?_)
 refine x0x rfl rfl rfl (z1z ..) (dc 2 (aS ?_ ?_))<;>intro o<;>try simp at o
 ·have hX : ¬ a6g w := by unfold a6g; omega
  refine dv 26 ?_
  refine x2x rfl ?_ rfl
  exact kF (fun h => hX h.1)
 refine dv 2 ?_
 refine x0x rfl rfl rfl (z1z ..) (dc 2 (aS ?_ ?_))<;>intro o<;>try simp at o
 ·have hX : ¬ a6g w := by unfold a6g; omega
  refine dv 21 ?_
  refine x2x rfl ?_ rfl
  exact kF (fun h => hX h.1)
 have hN : a6g w := by unfold a6g; omega
 refine dv 2 ?_
 refine x0x rfl rfl rfl (b6q ..) (dc 2 (aS ?_ ?_))<;>intro hg8<;>try simp at hg8
 ·have hX1 : ¬ c6q w.incs := hg8
  refine dv 16 ?_
  refine x2x rfl ?_ rfl
  exact kF (fun h => hX1 h.2.1)
 have hI : c6q w.incs := hg8
 refine dv 2 ?_
 refine x0x rfl rfl rfl (b6q ..) (dc 2 (aS ?_ ?_))<;>intro hg9<;>try simp at hg9
 ·have hX2 : ¬ c6q w.versions := hg9
  refine dv 11 ?_
  refine x2x rfl ?_ rfl
  exact kF (fun h => hX2 h.2.2.1)
 have hV : c6q w.versions := hg9
 refine dv 2 ?_
 refine x0x rfl rfl rfl (a4j ..) (dv 0 ?_)
 refine x0x rfl rfl rfl (a4d ..) (dc 2 (aS ?_ ?_))<;>intro hg10<;>try simp at hg10
 ·have hX3 : ¬ a9i okE a2t w.events 100 = true := by simpa using hg10
  refine dv 5 ?_
  refine x2x rfl ?_ rfl
  exact kF (fun h => hX3 h.2.2.2.1)
 have hE : a9i okE a2t w.events 100 = true := hg10
 refine dv 2 ?_
 refine x0x rfl rfl rfl (a8q ..) (dv 3 ?_)
 refine x2x rfl ?_ rfl
 exact congrArg (fun b : Bool => [AV.pv (.bool b)]) (Bool.eq_iff_iff.2 ⟨fun h => decide_eq_true ⟨hN, hI, hV, hE, h⟩, fun h => (of_decide_eq_true h).2.2.2.2⟩)
theorem a4z (c : Bool) (w : Wo) (hb : wob w) : a0t Tryz.prog 331 [.agg (w1w c w)] (.agg (w1w true w)) := by
 refine pX Tryz.f331 [.agg (w1w true w)] 10 ?_
 obtain ⟨b1, b2, b3, b4⟩ := hb
 refine dv 1 ?_
 refine y0y (id := 0) rfl rfl rfl (x3x (id := 1) p0p b1l rfl (dv 1 ?_))
 refine y1y (id := 2) a0o rfl s3s rfl (dv 2 ?_)
 refine a2c v3v (zs := (w.incs).map a3e) rfl rfl a0o rfl s3s rfl rfl rfl (z9z (fun _ => rfl) _) rfl (by (simp only [a0e, r7r, a0b, a0d, a0u, a2z, T3]; omega)) (Le.ow_map _ (fun _ => rfl) (fun _ => rfl)) ?_
 refine dv 3 ?_
 refine y1y (id := 4) a0o rfl s3s rfl (dv 2 ?_)
 refine a2c v3v (zs := (w.versions).map a3e) rfl rfl a0o rfl s3s rfl rfl rfl (z9z (fun _ => rfl) _) rfl (by (simp only [a0e, r7r, a0b, a0d, a0u, a2z, T3]; omega)) (Le.ow_map _ (fun _ => rfl) (fun _ => rfl)) ?_
 refine dv 3 ?_
 refine y1y (id := 6) u3u rfl z2z rfl (dv 2 ?_)
 refine a2c v3v (zs := (w.events).map y9y) rfl rfl u3u rfl z2z rfl rfl rfl (z9z (fun _ => rfl) _) rfl (by (simp only [a0e, r7r, a0b, a0d, a0u, a2z, T56]; omega)) (Le.ow_map _ (fun _ => rfl) (fun _ => rfl)) ?_
 refine dv 3 ?_
 refine y1y (id := 8) a1b rfl w9w rfl (dv 2 ?_)
 refine a2c v3v (zs := (w.outs).map q8q) rfl rfl a1b rfl w9w rfl rfl rfl (z9z (fun _ => rfl) _) rfl (by (simp only [a0e, r7r, a0b, a0d, a0u, a2z, T141]; omega)) (Le.ow_map _ (fun _ => rfl) (fun _ => rfl)) ?_
 refine dv 6 ?_
 exact b0r rfl rfl rfl rfl
theorem b0w (c : Bool) (l : List Wo) (k : Int) : a0t Tryz.prog 333 [w7w c l, .pv (.int .i64 k)] (.pv (.bool (kb (b3w l k ∧ (k = 3 → ∀ w ∈ l, b0a w))))) := by
 refine pX Tryz.f333 [.pv (.bool (kb (b3w l k ∧ (k = 3 → ∀ w ∈ l, b0a w))))] 0 ?_
 refine u0u 0 rfl fun hlen => ?_
 refine dv 6 fun K K' => ?_
 refine x4x (ι := Nat) (fun i γ1 => [(5, pI (i : Int))]) (fun i γ1 => []) (fun i => i ≤ l.length ∧ c9p l (fun j w => a4m w ∧ w.kind = k ∧ (∀ p, 0 < j → l[j - 1]? = some p → p.from' < w.from') ∧ (k = 3 → b0a w)) i) (fun i => l.length - i) (q6q [0, 1] rfl) HE.nil 0 ⟨by omega, a1p⟩ [] x6x x5x rfl fun i γ1 hi => ?_
 obtain ⟨h1, h2⟩ := hi
 refine dc 6 (fun K K' => aS ?_ ?_)<;>intro o<;>try simp at o
 ·have hall := a3d h2 (by omega)
  refine dv 4 ?_
  refine x2x rfl ?_ rfl
  exact congrArg (fun b : Bool => [AV.pv (.bool b)]) (e2y ⟨fun j w hw => ⟨(hall j w hw).1, (hall j w hw).2.1, (hall j w hw).2.2.1⟩, fun e w hw => by obtain ⟨j, hj⟩ := List.getElem?_of_mem hw; exact (hall j w hj).2.2.2 e⟩)
 obtain ⟨w, hw⟩ := gE l i
 refine dv 8 fun K K' K K' => ?_
 refine v4v (out := .agg (w1w c w)) rfl p0p rfl ?_
 refine x0x rfl rfl rfl (b3a ..) (dc 2 (aS ?_ ?_))<;>intro hg6<;>try simp at hg6
 ·have hX : ¬ a4m w := hg6
  refine dv 26 ?_
  try have hXo : ¬ p.from' < w.from' := by omega
  refine dv 3 ?_
  refine x2x rfl ?_ rfl
  exact congrArg (fun b : Bool => [AV.pv (.bool b)]) (a4g (fun h => hX (h.1 i w hw).1))
 have hW : a4m w := hg6
 refine dc 9 (aS ?_ ?_)<;>intro hg7<;>try simp at hg7
 ·try have hXk : ¬ w.kind = k := hg7
  refine dv 17 ?_
  try have hXo : ¬ p.from' < w.from' := by omega
  refine dv 3 ?_
  refine x2x rfl ?_ rfl
  exact congrArg (fun b : Bool => [AV.pv (.bool b)]) (a4g (fun h => hXk (h.1 i w hw).2.1))
 have hk : w.kind = k := hg7
 refine dc 3 (aS ?_ ?_)<;>intro o<;>try simp at o
 ·have hi0 : i = 0 := by omega
  have hO : ∀ p, 0 < i → l[i - 1]? = some p → p.from' < w.from' := fun p h => by omega
  refine dv 14 ?_
  try have hO : ∀ p, 0 < i → l[i - 1]? = some p → p.from' < w.from' := fun p2 _ h => by rw [hp] at h; cases h; omega
  refine dc 5 (aS ?_ ?_)<;>intro o<;>try simp at o
  ·refine dv 17 ?_
   have hF : k = 3 → b0a w := by intro _; exact ⟨by omega, by omega⟩
   refine dv 3 ?_
   refine x8x (b := 1) rfl rfl (by omega) (dv 1 ?_)
   exact ⟨i + 1, ⟨⟨by omega, s6s h2 hw ⟨hW, hk, hO, hF⟩⟩, by omega⟩, [], x6x, x6x, x5x, x5x, rfl⟩
  refine dc 8 (aS ?_ ?_)<;>intro o<;>try simp at o
  ·refine dv 9 ?_
   have hX5 : ¬ (k = 3 → b0a w) := fun h => by have := h (by omega); unfold b0a at this; omega
   refine dv 3 ?_
   refine x2x rfl ?_ rfl
   exact congrArg (fun b : Bool => [AV.pv (.bool b)]) (a4g (fun h => hX5 (fun e => h.2 e w (List.mem_of_getElem? hw))))
  refine dc 9 (aS ?_ ?_)<;>intro o<;>try simp at o
  ·have hF : k = 3 → b0a w := by intro _; exact ⟨by omega, by omega⟩
   refine dv 3 ?_
   refine x8x (b := 1) rfl rfl (by omega) (dv 1 ?_)
   exact ⟨i + 1, ⟨⟨by omega, s6s h2 hw ⟨hW, hk, hO, hF⟩⟩, by omega⟩, [], x6x, x6x, x5x, x5x, rfl⟩
  have hX5 : ¬ (k = 3 → b0a w) := fun h => by have := h (by omega); unfold b0a at this; omega
  refine dv 3 ?_
  refine x2x rfl ?_ rfl
  exact congrArg (fun b : Bool => [AV.pv (.bool b)]) (a4g (fun h => hX5 (fun e => h.2 e w (List.mem_of_getElem? hw))))
 obtain ⟨p, hp⟩ := gE l (i - 1)
 refine dv 2 ?_
 refine p6p (b := 1) rfl rfl (by omega) (by omega) (dc 11 (aI ?_ ?_))<;>intro o<;>try simp at o
 ·try have hXo : ¬ p.from' < w.from' := by omega
  refine dv 3 ?_
  refine x2x rfl ?_ rfl
  exact congrArg (fun b : Bool => [AV.pv (.bool b)]) (a4g (fun h => hXo ((h.1 i w hw).2.2 p (by omega) hp)))
 try have hO : ∀ p, 0 < i → l[i - 1]? = some p → p.from' < w.from' := fun p2 _ h => by rw [hp] at h; cases h; omega
 refine dc 5 (aS ?_ ?_)<;>intro o<;>try simp at o
 ·refine dv 17 ?_
  have hF : k = 3 → b0a w := by intro _; exact ⟨by omega, by omega⟩
  refine dv 3 ?_
  refine x8x (b := 1) rfl rfl (by omega) (dv 1 ?_)
  exact ⟨i + 1, ⟨⟨by omega, s6s h2 hw ⟨hW, hk, hO, hF⟩⟩, by omega⟩, [], x6x, x6x, x5x, x5x, rfl⟩
 refine dc 8 (aS ?_ ?_)<;>intro o<;>try simp at o
 ·refine dv 9 ?_
  have hX5 : ¬ (k = 3 → b0a w) := fun h => by have := h (by omega); unfold b0a at this; omega
  refine dv 3 ?_
  refine x2x rfl ?_ rfl
  exact congrArg (fun b : Bool => [AV.pv (.bool b)]) (a4g (fun h => hX5 (fun e => h.2 e w (List.mem_of_getElem? hw))))
 refine dc 9 (aS ?_ ?_)<;>intro o<;>try simp at o
 ·have hF : k = 3 → b0a w := by intro _; exact ⟨by omega, by omega⟩
  refine dv 3 ?_
  refine x8x (b := 1) rfl rfl (by omega) (dv 1 ?_)
  exact ⟨i + 1, ⟨⟨by omega, s6s h2 hw ⟨hW, hk, hO, hF⟩⟩, by omega⟩, [], x6x, x6x, x5x, x5x, rfl⟩
 have hX5 : ¬ (k = 3 → b0a w) := fun h => by have := h (by omega); unfold b0a at this; omega
 refine dv 3 ?_
 refine x2x rfl ?_ rfl
 exact congrArg (fun b : Bool => [AV.pv (.bool b)]) (a4g (fun h => hX5 (fun e => h.2 e w (List.mem_of_getElem? hw))))
theorem b0k (c : Bool) (h : Hb) : a0t Tryz.prog 323 [.agg (a8o c h)] (.pv (.bool (kb (a0z h)))) := by
 refine pX Tryz.f323 [.pv (.bool (kb (a0z h)))] 1 ?_
 refine dv 1 ?_
 refine y0y (id := 0) rfl rfl rfl (dv 4 ?_)
 refine x0x rfl rfl rfl (u6u ..) (x0x rfl rfl rfl (z1z ..) (dc 1 (aS ?_ ?_)))<;>intro o<;>try simp at o
 ·have hX : ¬ (0 ≤ h.round ∧ h.round ≤ 9999) := by omega
  refine dv 15 ?_
  refine x2x rfl ?_ rfl
  exact congrArg (fun b : Bool => [AV.pv (.bool b)]) (a4g (fun h => hX h.1))
 have hR : 0 ≤ h.round ∧ h.round ≤ 9999 := by omega
 refine dv 2 ?_
 refine x0x rfl rfl rfl (b0w ..) (dc 2 (aS ?_ ?_))<;>intro hg2<;>try simp at hg2
 ·have hX1 : ¬ (b3w h.ones 3 ∧ ((3 : Int) = 3 → ∀ w ∈ h.ones, b0a w)) := a1h (by simpa using hg2)
  refine dv 10 ?_
  refine x2x rfl ?_ rfl
  exact congrArg (fun b : Bool => [AV.pv (.bool b)]) (a4g (fun h => hX1 ⟨h.2.1, fun _ => h.2.2.2.2⟩))
 have h1 : b3w h.ones 3 ∧ ((3 : Int) = 3 → ∀ w ∈ h.ones, b0a w) := a1d.1 (by simpa using hg2)
 refine dv 2 ?_
 refine x0x rfl rfl rfl (b0w ..) (dc 2 (aS ?_ ?_))<;>intro hg3<;>try simp at hg3
 ·have hX2 : ¬ (b3w h.twos 5 ∧ ((5 : Int) = 3 → ∀ w ∈ h.twos, b0a w)) := a1h (by simpa using hg3)
  refine dv 5 ?_
  refine x2x rfl ?_ rfl
  exact congrArg (fun b : Bool => [AV.pv (.bool b)]) (a4g (fun h => hX2 ⟨h.2.2.1, fun e => by omega⟩))
 have h2 : b3w h.twos 5 ∧ ((5 : Int) = 3 → ∀ w ∈ h.twos, b0a w) := a1d.1 (by simpa using hg3)
 refine dv 2 ?_
 refine x0x rfl rfl rfl (b0w ..) (dv 3 ?_)
 refine x2x rfl ?_ rfl
 exact congrArg (fun b : Bool => [AV.pv (.bool b)]) (congrArg kb (propext ⟨fun h => ⟨hR, h1.1, h2.1, h.1, h1.2 rfl⟩, fun h => ⟨h.2.2.2.1, fun e => by omega⟩⟩))
end
section
theorem a9r (c : Bool) (l : List Wo) (hb : ∀ w ∈ l, wob w) (hl : l.length ≤ 1000000) : a0t Tryz.prog 334 [w7w c l] (w7w true l) := by
 refine pX Tryz.f334 [w7w true l] 3 ?_
 refine dv 3 ?_
 refine y1y (id := 0) r8r rfl p0p rfl (dv 5 fun K K' => ?_)
 refine x4x (ι := Nat) (fun i γ1 => [(3, .ref 0 (γ1 0)), (4, pI (i : Int))]) (fun i γ1 => [(0, ((γ1 0), .row 79 11 ((l.take i).map (w1w true)))), (1, ((γ1 1), .dead)), (2, ((γ1 2), .dead))]) (fun i => i ≤ l.length) (fun i => l.length - i) (x7x 0 rfl Cov.nil) HE.nil 0 (by omega) [_, _, _] x6x (HE.row rfl (by rw [List.take_zero]; rfl) (HE.kill rfl (HE.kill rfl HE.nil))) rfl fun i γ1 hi => ?_
 refine dc 6 (fun K K' => aS ?_ ?_)<;>intro u<;>try simp at u
 ·obtain rfl : i = l.length := by omega
  refine dv 5 ?_
  refine a5i rfl rfl (fun _ => rfl) ?_
  rw [List.take_length]
 obtain ⟨w, hw⟩ := gE l i
 have hwb := hb w (List.mem_of_getElem? hw)
 refine dv 8 fun K K' => ?_
 refine v4v (out := .agg (w1w c w)) rfl p0p rfl ?_
 refine x0x rfl rfl rfl (a4z c w hwb) (y2y (id := 1) r8r rfl p0p rfl rfl rfl rfl rfl rfl ?_)
 refine y6y (zs := (l.take i ++ [w]).map (w1w true)) rfl rfl r8r rfl p0p rfl rfl rfl rfl (by rfl) (z7z _ _ _) (by (simp only [a0e, r7r, a0b, a0d, a0u, a2z, T79]; omega)) ?_
 refine dv 3 ?_
 refine z8z rfl rfl rfl (dv 1 ?_)
 exact ⟨i + 1, ⟨by omega, by omega⟩, [_, _, _], (x7x 3 rfl (Cov.cons' (t := 4) rfl (by rw [x9x (by omega) (by omega)]; rfl) Cov.nil)), x6x, (HE.row rfl (by rw [z6z hw]) (HE.kill rfl (HE.kill rfl HE.nil))), x5x, rfl⟩
theorem a3m (c : Bool) (h : Hb) (hk : a0z h) : a0t Tryz.prog 324 [.agg (a8o c h)] (.agg (a8o true h)) := by
 refine pX Tryz.f324 [.agg (a8o true h)] 2 ?_
 have e1 := b7s hk.2.1
 have e2 := b7s hk.2.2.1
 have e3 := b7s hk.2.2.2.1
 refine dv 1 ?_
 refine y0y (id := 0) rfl rfl rfl (x3x (id := 1) a7i b7d rfl (dv 5 ?_))
 refine x0x rfl rfl rfl (a9r c h.ones (d5n hk.2.1) (by omega)) ?_
 refine dv 2 ?_
 refine x0x rfl rfl rfl (a9r c h.twos (d5n hk.2.2.1) (by omega)) ?_
 refine dv 2 ?_
 refine x0x rfl rfl rfl (a9r c h.outs (d5n hk.2.2.2.1) (by omega)) ?_
 refine rlB a7i b7d ?_
 refine dv 2 ?_
 exact b0r rfl rfl rfl rfl
theorem a8r (l : List Wo) (w : Wo) (ag : Bool) (hl : l.length ≤ 1000000) : a0t Tryz.prog 330 [w7w true l, .agg (w1w true w), .pv (.bool (ag))] (w7w true (a7o w ag l false)) := by
 refine pX Tryz.f330 [w7w true (a7o w ag l false)] 10 ?_
 refine dv 1 ?_
 refine y0y (id := 0) rfl rfl rfl (dv 2 ?_)
 refine y1y (id := 1) r8r rfl p0p rfl (dv 7 fun K K' => ?_)
 refine x4x (ι := List Wo × Bool × Nat) (fun p γ1 => [(7, .ref 1 (γ1 1)), (8, .pv (.bool (p.2.1))), (9, pI (p.2.2 : Int))]) (fun p γ1 => [(1, ((γ1 1), .row 79 11 ((p.1).map (w1w true)))), (2, ((γ1 2), .dead)), (3, ((γ1 3), .dead)), (4, ((γ1 4), .dead)), (5, ((γ1 5), .dead)), (6, ((γ1 6), .dead)), (7, ((γ1 7), .dead))]) (fun p => p.2.2 ≤ l.length ∧ p.1.length ≤ 2 * p.2.2 ∧ p.1 ++ a7o w ag (l.drop p.2.2) p.2.1 = a7o w ag l false) (fun p => l.length - p.2.2) (q6q [0, 2, 4] rfl) (a0p [0, 8, 9] rfl) ([], false, 0) ⟨by show 0 ≤ _; omega, by show 0 ≤ _; omega, rfl⟩ [0, _, _, _, _, _, _, _] x6x x5x rfl fun p γ1 hi => ?_
 obtain ⟨o, d, i⟩ := p
 obtain ⟨h1, h2, h3⟩ := hi
 dsimp only at h1 h2 h3 ⊢
 refine dc 6 (fun K K' => aS ?_ ?_)<;>intro u<;>try simp at u
 ·obtain rfl : i = l.length := by omega
  rw [List.drop_length] at h3
  refine dc 5 (fun K K' => aS ?_ ?_)<;>intro hc15<;>try simp at hc15
  ·obtain rfl : d = true := hc15
   refine dv 5 ?_
   refine a5i rfl rfl (fun _ => rfl) ?_
   (rw [← h3]; exact (List.append_nil _).symm)
  obtain rfl : d = false := hc15
  refine dv 3 ?_
  refine y2y (id := 8) r8r rfl p0p rfl rfl rfl rfl rfl rfl ?_
  refine y6y (zs := (o ++ [w]).map (w1w true)) rfl rfl r8r rfl p0p rfl rfl rfl rfl (by rfl) (z7z _ _ _) (by (simp only [a0e, r7r, a0b, a0d, a0u, a2z, T79]; omega)) ?_
  refine dv 5 ?_
  refine a5i rfl rfl (fun _ => rfl) ?_
  exact h3
 obtain ⟨x, hx⟩ := gE l i
 refine dc 13 (fun K K' K K' => aI ?_ ?_)<;>intro hc6<;>try simp at hc6
 ·have hq : x.from' = w.from' := hc6
  refine dc 4 (aI ?_ ?_)<;>intro hc7<;>try simp at hc7
  ·obtain rfl : ag = true := hc7
   have hN : i + 1 ≤ l.length ∧ (o ++ [w]).length ≤ 2 * (i + 1) ∧ (o ++ [w]) ++ a7o w true (l.drop (i + 1)) true = a7o w true l false := ⟨by omega, by simp only [r7r, a0b, a0d]; omega, b2z h3 (by rw [p8p hx]; exact f6a hq)⟩
   refine dv 3 ?_
   refine y2y (id := 2) r8r rfl p0p rfl rfl rfl rfl rfl rfl ?_
   refine y6y (zs := (o ++ [w]).map (w1w true)) rfl rfl r8r rfl p0p rfl rfl rfl rfl (by rfl) (z7z _ _ _) (by (simp only [a0e, r7r, a0b, a0d, a0u, a2z, T79]; omega)) ?_
   refine dv 4 ?_
   refine x8x (b := 1) rfl rfl (by omega) (dv 1 ?_)
   exact ⟨(_, _, _), ⟨hN, (by show l.length - (i + 1) < l.length - i; omega)⟩, [0, _, _, _, _, _, _, _], x6x, x6x, x5x, x5x, rfl⟩
  obtain rfl : ag = false := hc7
  have hN : i + 1 ≤ l.length ∧ (o ++ [x]).length ≤ 2 * (i + 1) ∧ (o ++ [x]) ++ a7o w false (l.drop (i + 1)) true = a7o w false l false := ⟨by omega, by simp only [r7r, a0b, a0d]; omega, b2z h3 (by rw [p8p hx]; exact f6b hq)⟩
  refine dv 16 fun K K' => ?_
  try have hN : i + 1 ≤ l.length ∧ (o ++ [x]).length ≤ 2 * (i + 1) ∧ (o ++ [x]) ++ a7o w ag (l.drop (i + 1)) false = a7o w ag l false := ⟨by omega, by simp only [r7r, a0b, a0d]; omega, b2z h3 (by rw [p8p hx]; exact d7y hq (by rintro ⟨_, h⟩; omega))⟩
  refine dv 6 ?_
  refine v4v (out := .agg (w1w true x)) rfl p0p rfl ?_
  refine y2y (id := 6) r8r rfl p0p rfl rfl rfl rfl rfl rfl ?_
  refine y6y (zs := (o ++ [x]).map (w1w true)) rfl rfl r8r rfl p0p rfl rfl rfl rfl (by rfl) (z7z _ _ _) (by (simp only [a0e, r7r, a0b, a0d, a0u, a2z, T79]; omega)) ?_
  refine dv 3 ?_
  refine x8x (b := 1) rfl rfl (by omega) (dv 1 ?_)
  exact ⟨(_, _, _), ⟨hN, (by show l.length - (i + 1) < l.length - i; omega)⟩, [0, _, _, _, _, _, _, _], x6x, x6x, x5x, x5x, rfl⟩
 have hq : ¬ x.from' = w.from' := hc6
 refine dc 6 (fun K K' => aS ?_ ?_)<;>intro hg11<;>try simp at hg11
 ·obtain rfl : d = true := hg11
  have hN : i + 1 ≤ l.length ∧ (o ++ [x]).length ≤ 2 * (i + 1) ∧ (o ++ [x]) ++ a7o w ag (l.drop (i + 1)) true = a7o w ag l false := ⟨by omega, by simp only [r7r, a0b, a0d]; omega, b2z h3 (by rw [p8p hx]; exact d7y hq (by simp))⟩
  refine dv 9 ?_
  try have hN : i + 1 ≤ l.length ∧ (o ++ [x]).length ≤ 2 * (i + 1) ∧ (o ++ [x]) ++ a7o w ag (l.drop (i + 1)) false = a7o w ag l false := ⟨by omega, by simp only [r7r, a0b, a0d]; omega, b2z h3 (by rw [p8p hx]; exact d7y hq (by rintro ⟨_, h⟩; omega))⟩
  refine dv 6 ?_
  refine v4v (out := .agg (w1w true x)) rfl p0p rfl ?_
  refine y2y (id := 6) r8r rfl p0p rfl rfl rfl rfl rfl rfl ?_
  refine y6y (zs := (o ++ [x]).map (w1w true)) rfl rfl r8r rfl p0p rfl rfl rfl rfl (by rfl) (z7z _ _ _) (by (simp only [a0e, r7r, a0b, a0d, a0u, a2z, T79]; omega)) ?_
  refine dv 3 ?_
  refine x8x (b := 1) rfl rfl (by omega) (dv 1 ?_)
  exact ⟨(_, _, _), ⟨hN, (by show l.length - (i + 1) < l.length - i; omega)⟩, [0, _, _, _, _, _, _, _], x6x, x6x, x5x, x5x, rfl⟩
 obtain rfl : d = false := hg11
 refine dc 9 (aS ?_ ?_)<;>intro u<;>try simp at u
 ·try have hN : i + 1 ≤ l.length ∧ (o ++ [x]).length ≤ 2 * (i + 1) ∧ (o ++ [x]) ++ a7o w ag (l.drop (i + 1)) false = a7o w ag l false := ⟨by omega, by simp only [r7r, a0b, a0d]; omega, b2z h3 (by rw [p8p hx]; exact d7y hq (by rintro ⟨_, h⟩; omega))⟩
  refine dv 6 ?_
  refine v4v (out := .agg (w1w true x)) rfl p0p rfl ?_
  refine y2y (id := 6) r8r rfl p0p rfl rfl rfl rfl rfl rfl ?_
  refine y6y (zs := (o ++ [x]).map (w1w true)) rfl rfl r8r rfl p0p rfl rfl rfl rfl (by rfl) (z7z _ _ _) (by (simp only [a0e, r7r, a0b, a0d, a0u, a2z, T79]; omega)) ?_
  refine dv 3 ?_
  refine x8x (b := 1) rfl rfl (by omega) (dv 1 ?_)
  exact ⟨(_, _, _), ⟨hN, (by show l.length - (i + 1) < l.length - i; omega)⟩, [0, _, _, _, _, _, _, _], x6x, x6x, x5x, x5x, rfl⟩
 have hN : i + 1 ≤ l.length ∧ (o ++ [w] ++ [x]).length ≤ 2 * (i + 1) ∧ (o ++ [w] ++ [x]) ++ a7o w ag (l.drop (i + 1)) true = a7o w ag l false := ⟨by omega, by simp only [r7r, a0b, a0d]; omega, by rw [List.append_assoc o]; exact b2z h3 (by rw [p8p hx]; exact f6c hq (by omega))⟩
 refine dv 3 ?_
 refine y2y (id := 4) r8r rfl p0p rfl rfl rfl rfl rfl rfl ?_
 refine y6y (zs := (o ++ [w]).map (w1w true)) rfl rfl r8r rfl p0p rfl rfl rfl rfl (by rfl) (z7z _ _ _) (by (simp only [a0e, r7r, a0b, a0d, a0u, a2z, T79]; omega)) ?_
 refine dv 8 ?_
 refine v4v (out := .agg (w1w true x)) rfl p0p rfl ?_
 refine y2y (id := 6) r8r rfl p0p rfl rfl rfl rfl rfl rfl ?_
 refine y6y (zs := (o ++ [w] ++ [x]).map (w1w true)) rfl rfl r8r rfl p0p rfl rfl rfl rfl (by rfl) (z7z _ _ _) (by (simp only [a0e, r7r, a0b, a0d, a0u, a2z, T79]; omega)) ?_
 refine dv 3 ?_
 refine x8x (b := 1) rfl rfl (by omega) (dv 1 ?_)
 exact ⟨(_, _, _), ⟨hN, (by show l.length - (i + 1) < l.length - i; omega)⟩, [0, _, _, _, _, _, _, _], x6x, x6x, x5x, x5x, rfl⟩
theorem b9q (k f t i0 v r g : Int) : a0t Tryz.prog 325 [.agg [pI k, pI f, pI t, pI i0, pI v, pI r, pI g, .pv (.slice none 0 0), .pv (.slice none 0 0), .pv (.slice none 0 0), .pv (.slice none 0 0)]] (w7w true (e6j ⟨k, f, t, i0, v, r, g, [], [], [], []⟩)) := by
 refine pX Tryz.f325 [w7w true (e6j ⟨k, f, t, i0, v, r, g, [], [], [], []⟩)] 4 ?_
 refine dv 1 ?_
 refine y0y (id := 0) rfl rfl rfl (dv 2 ?_)
 refine y1y (id := 1) r8r rfl p0p rfl (dv 5 fun K K' => ?_)
 refine x4x (ι := Nat) (fun i γ1 => [(3, .ref 1 (γ1 1)), (4, pI ((i + 1 : Nat) : Int))]) (fun i γ1 => [(1, ((γ1 1), .row 79 11 ((List.range i).map fun (j : Nat) => [pI k, pI f, pI ((j + 1 : Nat) : Int), pI i0, pI v, pI r, pI g, .pv (.slice none 0 0), .pv (.slice none 0 0), .pv (.slice none 0 0), .pv (.slice none 0 0)]))), (0, ((0 + 1), .box 79 [pI k, pI f, pI (if i = 0 then t else ((i : Nat) : Int)), pI i0, pI v, pI r, pI g, .pv (.slice none 0 0), .pv (.slice none 0 0), .pv (.slice none 0 0), .pv (.slice none 0 0)])), (2, ((γ1 2), .dead)), (3, ((γ1 3), .dead))]) (fun i => i ≤ 2) (fun i => 2 - i) (x7x 1 rfl Cov.nil) HE.nil 0 (by omega) [0, _, _, _] x6x (HE.row rfl (by rfl) (HE.box rfl (by rfl) (HE.kill rfl (HE.kill rfl HE.nil)))) rfl fun i γ1 hi => ?_
 refine dc 4 (fun K K' => aS ?_ ?_)<;>intro u<;>try simp at u
 ·obtain rfl : i = 2 := by omega
  refine dv 4 ?_
  refine d2b (f := fun (j : Nat) => [pI k, pI f, pI ((j + 1 : Nat) : Int), pI i0, pI v, pI r, pI g, .pv (.slice none 0 0), .pv (.slice none 0 0), .pv (.slice none 0 0), .pv (.slice none 0 0)]) (f' := fun (j : Nat) => w1w true ⟨k, f, ((j + 1 : Nat) : Int), i0, v, r, g, [], [], [], []⟩) (l := List.range 2) 1 rfl (fun _ => .same (.same (.same (.same (.same (.same (.same (.le rfl .nil rfl (.le rfl .nil rfl (.le rfl .nil rfl (.le rfl .nil rfl .nil))))))))))) ?_
  refine dv 1 ?_
  exact a5i (l := List.range 2) (l' := List.range 2) (f := fun (j : Nat) => w1w true ⟨k, f, ((j + 1 : Nat) : Int), i0, v, r, g, [], [], [], []⟩) rfl rfl (fun _ => rfl) rfl
 refine dv 10 fun K K' => ?_
 refine y2y (id := 2) r8r rfl p0p rfl rfl rfl rfl rfl rfl ?_
 refine y6y (zs := ((List.range i).map fun (j : Nat) => [pI k, pI f, pI ((j + 1 : Nat) : Int), pI i0, pI v, pI r, pI g, .pv (.slice none 0 0), .pv (.slice none 0 0), .pv (.slice none 0 0), .pv (.slice none 0 0)]) ++ [[pI k, pI f, pI ((i + 1 : Nat) : Int), pI i0, pI v, pI r, pI g, .pv (.slice none 0 0), .pv (.slice none 0 0), .pv (.slice none 0 0), .pv (.slice none 0 0)]]) rfl rfl r8r rfl p0p rfl rfl rfl rfl (by rfl) rfl (by (simp only [a0e, r7r, a0b, a0d, a0u, a2z, T79]; omega)) ?_
 refine dv 3 ?_
 refine x8x (b := 1) rfl rfl (by omega) (dv 1 ?_)
 exact ⟨i + 1, ⟨by omega, by omega⟩, [0, _, _, _], x6x, x6x, (HE.row rfl (by rw [List.range_succ, List.map_append]; rfl) (HE.box rfl (by rw [if_neg (by omega : ¬ i + 1 = 0)] <;> rfl) (HE.kill rfl (HE.kill rfl HE.nil)))), x5x, rfl⟩
theorem c5p (k f t i0 v r g : Int) : Meth Tryz.prog 325 1 [] [.agg [pI k, pI f, pI t, pI i0, pI v, pI r, pI g, .pv (.slice none 0 0), .pv (.slice none 0 0), .pv (.slice none 0 0), .pv (.slice none 0 0)]] [(0, (0, .dead))] (.ref 0 0) [(0, (0, .row 79 11 ((e6j ⟨k, f, t, i0, v, r, g, [], [], [], []⟩).map (w1w true))))] := by
 refine mX Tryz.f325 [.ref 0 0] 1 3 fun γ => ?_
 refine dv 1 ?_
 refine y0y (id := 1) rfl rfl rfl (dv 2 ?_)
 refine y1y (id := 0) r8r rfl p0p rfl (dv 5 fun K K' => ?_)
 refine x4x (ι := Nat) (fun i γ1 => [(3, .ref 0 (γ1 0)), (4, pI ((i + 1 : Nat) : Int))]) (fun i γ1 => [(0, ((γ1 0), .row 79 11 ((List.range i).map fun (j : Nat) => [pI k, pI f, pI ((j + 1 : Nat) : Int), pI i0, pI v, pI r, pI g, .pv (.slice none 0 0), .pv (.slice none 0 0), .pv (.slice none 0 0), .pv (.slice none 0 0)]))), (1, ((0 + 1), .box 79 [pI k, pI f, pI (if i = 0 then t else ((i : Nat) : Int)), pI i0, pI v, pI r, pI g, .pv (.slice none 0 0), .pv (.slice none 0 0), .pv (.slice none 0 0), .pv (.slice none 0 0)])), (2, ((γ1 2), .dead)), (3, ((γ1 3), .dead))]) (fun i => i ≤ 2) (fun i => 2 - i) (x7x 1 rfl Cov.nil) HE.nil 0 (by omega) [_, 0, _, _] x6x (HE.row rfl (by rfl) (HE.box rfl (by rfl) (HE.kill rfl (HE.kill rfl HE.nil)))) rfl fun i γ1 hi => ?_
 refine dc 4 (fun K K' => aS ?_ ?_)<;>intro u<;>try simp at u
 ·obtain rfl : i = 2 := by omega
  refine dv 4 ?_
  refine d2b (f := fun (j : Nat) => [pI k, pI f, pI ((j + 1 : Nat) : Int), pI i0, pI v, pI r, pI g, .pv (.slice none 0 0), .pv (.slice none 0 0), .pv (.slice none 0 0), .pv (.slice none 0 0)]) (f' := fun (j : Nat) => w1w true ⟨k, f, ((j + 1 : Nat) : Int), i0, v, r, g, [], [], [], []⟩) (l := List.range 2) 0 rfl (fun _ => .same (.same (.same (.same (.same (.same (.same (.le rfl .nil rfl (.le rfl .nil rfl (.le rfl .nil rfl (.le rfl .nil rfl .nil))))))))))) ?_
  refine dv 1 ?_
  exact ⟨[_], rfl, rfl, x5x⟩
 refine dv 10 fun K K' => ?_
 refine y2y (id := 2) r8r rfl p0p rfl rfl rfl rfl rfl rfl ?_
 refine y6y (zs := ((List.range i).map fun (j : Nat) => [pI k, pI f, pI ((j + 1 : Nat) : Int), pI i0, pI v, pI r, pI g, .pv (.slice none 0 0), .pv (.slice none 0 0), .pv (.slice none 0 0), .pv (.slice none 0 0)]) ++ [[pI k, pI f, pI ((i + 1 : Nat) : Int), pI i0, pI v, pI r, pI g, .pv (.slice none 0 0), .pv (.slice none 0 0), .pv (.slice none 0 0), .pv (.slice none 0 0)]]) rfl rfl r8r rfl p0p rfl rfl rfl rfl (by rfl) rfl (by (simp only [a0e, r7r, a0b, a0d, a0u, a2z, T79]; omega)) ?_
 refine dv 3 ?_
 refine x8x (b := 1) rfl rfl (by omega) (dv 1 ?_)
 exact ⟨i + 1, ⟨by omega, by omega⟩, [_, 0, _, _], x6x, x6x, (HE.row rfl (by rw [List.range_succ, List.map_append]; rfl) (HE.box rfl (by rw [if_neg (by omega : ¬ i + 1 = 0)] <;> rfl) (HE.kill rfl (HE.kill rfl HE.nil)))), x5x, rfl⟩
theorem d0p (l : List Wo) (f : Int) : a0t Tryz.prog 329 [w7w true l, .pv (.int .i64 f)] (.tup [.agg (w1w true (f4g f l)), .pv (.bool (b7t f l).isSome)]) := by
 refine pX Tryz.f329 [.agg (w1w true (f4g f l)), .pv (.bool (b7t f l).isSome)] 1 ?_
 refine u0u 0 rfl fun hlen => ?_
 refine dv 1 ?_
 refine x3x (id := 0) p0p b1l rfl (dv 5 fun K K' => ?_)
 refine x4x (ι := Nat) (fun i γ1 => [(6, pI (i : Int))]) (fun i γ1 => []) (fun i => i ≤ l.length ∧ c9p l (fun _ w => ¬ w.from' = f) i) (fun i => l.length - i) (q6q [0, 1, 4] rfl) (u8u 0 rfl HE.nil) 0 ⟨by omega, a1p⟩ [] x6x x5x rfl fun i γ1 hi => ?_
 obtain ⟨h1, h2⟩ := hi
 refine dc 6 (fun K K' => aS ?_ ?_)<;>intro u<;>try simp at u
 ·have hno := e8u (a3d h2 (by omega))
  refine dv 2 ?_
  refine rlB p0p b1l ?_
  refine dv 3 ?_
  (rw [f4g, hno]; exact ⟨_, _, rfl, d0c (.cl rfl .nil)⟩)
 obtain ⟨w, hw⟩ := gE l i
 refine dc 11 (fun K K' => aS ?_ ?_)<;>intro hc5<;>try simp at hc5
 ·have hne : ¬ w.from' = f := hc5
  refine dv 3 ?_
  refine x8x (b := 1) rfl rfl (by omega) (dv 1 ?_)
  exact ⟨i + 1, ⟨⟨by omega, s6s h2 hw hne⟩, by omega⟩, [], x6x, x6x, x5x, x5x, rfl⟩
 have hat := d7z h2 hw hc5
 refine dv 4 ?_
 refine v4v (out := .agg (w1w true w)) rfl p0p rfl ?_
 refine dv 3 ?_
 (rw [f4g, hat]; exact ⟨_, _, rfl, .agg rfl (.cl rfl (.cl rfl (.cl rfl (.cl rfl (.cl rfl (.cl rfl (.cl rfl (.cl rfl (.cl rfl (.cl rfl (.cl rfl (.nil)))))))))))) (.cl rfl .nil)⟩)
theorem c5q (c : Bool) (h : Hb) : a0t Tryz.prog 332 [.agg (a8o c h)] (.tup [.pv (.int .i64 (r4r h).1), .pv (.bool (r4r h).2)]) := by
 refine pX Tryz.f332 [.pv (.int .i64 (r4r h).1), .pv (.bool ((r4r h).2))] 1 ?_
 refine dv 1 ?_
 refine y0y (id := 0) rfl rfl rfl (dv 5 fun K K' => ?_)
 refine x0x rfl rfl rfl (b0k ..) (dc 2 (aS ?_ ?_))<;>intro hg2<;>try simp at hg2
 ·have hX : ¬ a8b h := fun q => a1h (by simpa using hg2) q.1
  refine dv 11 ?_
  try have hX : ¬ a8b h := fun q => by have := q.2.1; have := q.2.2.1; omega
  refine dv 4 ?_
  (rw [b7u hX]; exact ⟨_, _, rfl, .cl rfl (.cl rfl .nil)⟩)
 have hK : a0z h := a1d.1 (by simpa using hg2)
 refine dc 6 (aS ?_ ?_)<;>intro u<;>try simp at u
 ·refine dv 5 ?_
  try have hX : ¬ a8b h := fun q => by have := q.2.1; have := q.2.2.1; omega
  refine dv 4 ?_
  (rw [b7u hX]; exact ⟨_, _, rfl, .cl rfl (.cl rfl .nil)⟩)
 refine dc 5 (aI ?_ ?_)<;>intro u<;>try simp at u
 ·try have hX : ¬ a8b h := fun q => by have := q.2.1; have := q.2.2.1; omega
  refine dv 4 ?_
  (rw [b7u hX]; exact ⟨_, _, rfl, .cl rfl (.cl rfl .nil)⟩)
 have e1 : h.ones.length = 3 := by omega
 have e2 : h.twos.length = 3 := by omega
 refine dv 7 fun K K' => ?_
 refine x4x (ι := Nat) (fun i γ1 => [(4, pI (a1w 41 (h.ones.take i))), (5, pI (i : Int))]) (fun i γ1 => []) (fun i => i ≤ 3 ∧ ∀ j, j < i → e4t h j) (fun i => 3 - i) (x7x 1 rfl Cov.nil) (u8u 0 rfl HE.nil) 0 ⟨by omega, fun j hj => by omega⟩ [] (Cov.cons' (t := 4) rfl (rfl) (x7x 5 rfl Cov.nil)) x5x rfl fun i γ1 hi => ?_
 obtain ⟨h1, h1b⟩ := hi
 refine dc 4 (fun K K' => aS ?_ ?_)<;>intro u<;>try simp at u
 ·obtain rfl : i = 3 := by omega
  have hT : a8b h := ⟨hK, e1, e2, fun j hj => h1b j hj⟩
  have e3 : a1w 41 (h.ones.take 3) = a1w 41 h.ones := by rw [List.take_of_length_le (by omega)]
  refine dv 6 ?_
  (rw [f3e hT, ← e3]; exact ⟨_, _, rfl, .cl rfl (.cl rfl .nil)⟩)
 obtain ⟨a, ha⟩ := gE h.ones i
 obtain ⟨b, hb⟩ := gE h.twos i
 refine dc 18 (fun K K' K K' => aI ?_ ?_)<;>intro hc10<;>try simp at hc10
 ·have hX : ¬ a8b h := fun q => by have := (q.2.2.2 i (by omega) a b ha hb).1; omega
  refine dv 4 ?_
  (rw [b7u hX]; exact ⟨_, _, rfl, .cl rfl (.cl rfl .nil)⟩)
 have hI : a.inc = b.inc := hc10
 refine dv 1 ?_
 refine p9p (ι := Unit) (fun _i γ2 => [(4, pI (a1w 41 (h.ones.take (i + 1))))]) (fun _i γ2 => []) (fun _i => True) (q6q [1, 5] rfl) (u8u 0 rfl HE.nil) ?_ fun _i γ2 hi => ?_
 ·refine dc 9 (aS ?_ ?_)<;>intro u<;>try simp at u
  ·have hlt : ¬ a.g < a1w 41 (h.ones.take i) := by omega
   refine dv 1 ?_
   exact ⟨(), trivial, [], (Cov.cons' (t := 4) rfl (congrArg (fun v : Int => AV.pv (.int .i64 v)) (d8b ha hlt)) Cov.nil), x6x, x5x, x5x, rfl⟩
  have hlt : a.g < a1w 41 (h.ones.take i) := by omega
  refine dv 8 ?_
  exact ⟨(), trivial, [], (Cov.cons' (t := 4) rfl (congrArg (fun v : Int => AV.pv (.int .i64 v)) (d8a ha hlt)) Cov.nil), x6x, x5x, x5x, rfl⟩
 ·try dsimp only [b1e, b1f]
  refine dv 3 ?_
  refine x4x (ι := Nat) (fun k γ3 => [(6, pI (k : Int))]) (fun k γ3 => []) (fun k => k ≤ 3 ∧ ∀ (q : Nat) x, q < k → q ≠ i → h.ones[q]? = some x → x.incs.getD i 0 = b.inc ∧ x.versions.getD i 0 = b.version) (fun k => 3 - k) (q6q [1, 4, 5] rfl) (u8u 0 rfl HE.nil) 0 ⟨by omega, fun q x hq => by omega⟩ [] x6x x5x rfl fun k γ3 hi => ?_
  obtain ⟨h2, h2b⟩ := hi
  refine dc 4 (fun K K' => aS ?_ ?_)<;>intro u<;>try simp at u
  ·have hJ : e4t h i := fun a2 b2 ha2 hb2 => by rw [ha] at ha2; rw [hb] at hb2; cases ha2; cases hb2; exact ⟨hI, fun q x hne hx => h2b q x (by have := (List.getElem?_eq_some_iff.1 hx).1; omega) hne hx⟩
   refine dv 3 ?_
   refine x8x (b := 1) rfl rfl (by omega) (dv 1 ?_)
   exact ⟨i + 1, ⟨⟨by omega, fun j hj => by rcases Nat.lt_succ_iff_lt_or_eq.1 hj with q | q; exact h1b j q; subst q; exact hJ⟩, by omega⟩, [], x6x, x6x, x5x, x5x, rfl⟩
  obtain ⟨x0, hx0⟩ := gE h.ones k
  have hfu := hK.2.2.2.2 x0 (List.mem_of_getElem? hx0)
  obtain ⟨fu1, fu2⟩ := hfu
  obtain ⟨z, hz⟩ := gE x0.incs i
  obtain ⟨y, hy⟩ := gE x0.versions i
  refine dc 8 (fun K K' => aS ?_ ?_)<;>intro u<;>try simp at u
  ·refine dv 35 ?_
   have hS : k ≠ i → x0.incs.getD i 0 = b.inc ∧ x0.versions.getD i 0 = b.version := fun hne => by rw [b4x hz, b4x hy]; omega
   refine dv 3 ?_
   refine x8x (b := 1) rfl rfl (by omega) (dv 1 ?_)
   exact ⟨k + 1, ⟨⟨by omega, fun q x hq hne hx => by rcases Nat.lt_succ_iff_lt_or_eq.1 hq with q1 | q1; exact h2b q x q1 hne hx; subst q1; rw [hx0] at hx; cases hx; exact hS hne⟩, by omega⟩, [], x6x, x6x, x5x, x5x, rfl⟩
  refine dc 17 (aS ?_ ?_)<;>intro u<;>try simp at u
  ·refine dv 18 ?_
   have hX : ¬ a8b h := fun q => by have := (q.2.2.2 i (by omega) a b ha hb).2 k x0 (by omega) hx0; rw [b4x hz, b4x hy] at this; omega
   refine dv 4 ?_
   (rw [b7u hX]; exact ⟨_, _, rfl, .cl rfl (.cl rfl .nil)⟩)
  refine dc 18 (aI ?_ ?_)<;>intro u<;>try simp at u
  ·have hX : ¬ a8b h := fun q => by have := (q.2.2.2 i (by omega) a b ha hb).2 k x0 (by omega) hx0; rw [b4x hz, b4x hy] at this; omega
   refine dv 4 ?_
   (rw [b7u hX]; exact ⟨_, _, rfl, .cl rfl (.cl rfl .nil)⟩)
  have hS : k ≠ i → x0.incs.getD i 0 = b.inc ∧ x0.versions.getD i 0 = b.version := fun hne => by rw [b4x hz, b4x hy]; omega
  refine dv 3 ?_
  refine x8x (b := 1) rfl rfl (by omega) (dv 1 ?_)
  exact ⟨k + 1, ⟨⟨by omega, fun q x hq hne hx => by rcases Nat.lt_succ_iff_lt_or_eq.1 hq with q1 | q1; exact h2b q x q1 hne hx; subst q1; rw [hx0] at hx; cases hx; exact hS hne⟩, by omega⟩, [], x6x, x6x, x5x, x5x, rfl⟩
end
section
theorem c6x (c : Bool) (n : Nd) (fS : a0x n) (i : Nat) (l : La) (hl : n.lanes[i]? = some l) : a0t Tryz.prog 141 [.agg (u1u c n), .pv (.int .i64 (i : Int))] (.tup [.agg (y9y (b3s l (a1e n l.proc)).1), .pv (.bool (b3s l (a1e n l.proc)).2)]) := by
 refine pX Tryz.f141 [.agg (y9y (b3s l (a1e n l.proc)).1), .pv (.bool (b3s l (a1e n l.proc)).2)] 2 ?_
 have fB := w5w fS
 refine dv 1 ?_
 refine y0y (id := 0) rfl rfl rfl (x3x (id := 1) z2z a7w rfl (dv 14 ?_))
 refine x0x rfl rfl rfl (a4y c n l.proc (b1u fS) (by omega) fS.2.2.2.2.2.1) ?_
 refine x0x rfl rfl rfl (b5e c true l (a1e n l.proc)) ?_
 refine dv 5 ?_
 exact ⟨_, _, rfl, .agg rfl (.cl rfl (.cl rfl (.cl rfl (.cl rfl (.cl rfl (.cl rfl (.cl rfl .nil))))))) (.cl rfl .nil)⟩
theorem b6r (c : Bool) (n : Nd) : a0t Tryz.prog 44 [.agg (u1u c n)] (.pv (.int .i64 (c0y n))) := by
 refine pX Tryz.f44 [.pv (.int .i64 (c0y n))] 2 ?_
 refine dv 1 ?_
 refine y0y (id := 0) rfl rfl rfl (dv 6 fun K K' => ?_)
 refine x0x rfl rfl rfl (p2p ..) (dc 1 (aI ?_ ?_))<;>intro hc2<;>try simp at hc2
 ·have fX : ¬ y3y n := a1h (by simpa using hc2)
  refine dv 3 ?_
  refine x2x rfl ?_ rfl
  exact congrArg (fun v : Int => [AV.pv (.int .i64 v)]) (e3g fX).symm
 have fK : y3y n := a1d.1 (by simpa using hc2)
 have fS := fK.1
 have fB := w5w fS
 refine dv 5 fun K K' => ?_
 refine x4x (ι := Nat) (fun i γ1 => [(3, pI (b3t n i)), (4, pI (i : Int))]) (fun i γ1 => [(1, ((γ1 1), .dead))]) (fun i => i ≤ n.lanes.length) (fun i => n.lanes.length - i) (x7x 1 rfl Cov.nil) (u8u 0 rfl HE.nil) 0 (by omega) [0, _] x6x x5x rfl fun i γ1 hi => ?_
 refine dc 7 (fun K K' => aS ?_ ?_)<;>intro j<;>try simp at j
 ·obtain rfl : i = n.lanes.length := by omega
  refine dv 5 ?_
  refine x2x rfl ?_ rfl
  exact congrArg (fun v : Int => [AV.pv (.int .i64 v)]) (c4p fK).symm
 obtain ⟨l, hl⟩ := gE n.lanes i
 have hnc := b9k fK hl
 refine dv 6 fun K K' => ?_
 refine x0x rfl rfl rfl (c6x c n fS i l hl) (dv 3 ?_)
 refine x3x (id := 1) z2z a7w rfl (dv 2 ?_)
 rw [c4o ⟨hnc.2.1, hnc.2.2.1⟩]
 refine dc 3 (aS ?_ ?_)<;>intro hg7<;>try simp at hg7
 ·have hno : ¬ ((a6p l (a1e n l.proc)).2 = true ∧ (a6p l (a1e n l.proc)).1.time < b3t n i) := fun h => by have := h.1; simp_all
  refine dv 8 ?_
  refine x8x (b := 1) rfl rfl (by omega) (dv 1 ?_)
  exact ⟨i + 1, ⟨by omega, by omega⟩, [0, _], (Cov.cons' (t := 3) rfl (congrArg (fun v : Int => AV.pv (.int .i64 v)) (d4v hl hno).symm) (x7x 4 rfl Cov.nil)), x6x, x5x, x5x, rfl⟩
 have h2 : (a6p l (a1e n l.proc)).2 = true := hg7
 refine dc 5 (aS ?_ ?_)<;>intro j<;>try simp at j
 ·have hno : ¬ ((a6p l (a1e n l.proc)).2 = true ∧ (a6p l (a1e n l.proc)).1.time < b3t n i) := by (intro h; omega)
  refine dv 3 ?_
  refine x8x (b := 1) rfl rfl (by omega) (dv 1 ?_)
  exact ⟨i + 1, ⟨by omega, by omega⟩, [0, _], (Cov.cons' (t := 3) rfl (congrArg (fun v : Int => AV.pv (.int .i64 v)) (d4v hl hno).symm) (x7x 4 rfl Cov.nil)), x6x, x5x, x5x, rfl⟩
 have h3 : (a6p l (a1e n l.proc)).1.time < b3t n i := by omega
 refine dv 6 ?_
 refine x8x (b := 1) rfl rfl (by omega) (dv 1 ?_)
 exact ⟨i + 1, ⟨by omega, by omega⟩, [0, _], (Cov.cons' (t := 3) rfl (congrArg (fun v : Int => AV.pv (.int .i64 v)) (e3f hl ⟨h2, h3⟩).symm) (x7x 4 rfl Cov.nil)), x6x, x5x, x5x, rfl⟩
end
section
theorem b2e (c : Bool) (n : Nd) (r : Int) : a0t Tryz.prog 61 [.agg (u1u c n), .pv (.int .i64 r)] (.tup [.agg (u1u true (v5v n r).1), .agg (w1w true (v5v n r).2.1), .pv (.bool (v5v n r).2.2)]) := by
 refine pX Tryz.f61 [.agg (u1u true (v5v n r).1), .agg (w1w true (v5v n r).2.1), .pv (.bool (v5v n r).2.2)] 14 ?_
 refine dv 1 ?_
 refine y0y (id := 0) rfl rfl rfl (x3x (id := 1) u9u q1q rfl (x3x (id := 2) p0p b1l rfl (dv 4 fun K K' => ?_)))
 refine x0x rfl rfl rfl (p2p ..) (dc 1 (aI ?_ ?_))<;>intro hc2<;>try simp at hc2
 ·have fX : ¬ y3y n := a1h (by simpa using hc2)
  refine dv 1 ?_
  refine rlB u9u q1q ?_
  refine rlB p0p b1l ?_
  refine dv 4 ?_
  (rw [e7s fX]; exact ⟨_, _, rfl, b7p (d0c (.cl rfl .nil))⟩)
 have fK : y3y n := a1d.1 (by simpa using hc2)
 have fS := fK.1
 have fB := w5w fS
 have fV := fS.2.2.2.2.2.1
 have fb := c0x fS
 refine dv 3 ?_
 refine rlM [9, 10, 11] [_, _, _] (y5y c n fb) rfl rfl rfl ?_
 refine x3x (id := 3) u9u q1q rfl (dc 7 (fun K K' => aS ?_ ?_))<;>intro hg4<;>try simp at hg4
 ·have fU : ¬ (n.up = true ∧ n.round + 1 ≤ r ∧ r ≤ 9999) := fun h => by have := h.1; simp_all
  refine dv 10 ?_
  refine rlB p0p b1l ?_
  refine dv 4 ?_
  (rw [d7i fK fU]; exact ⟨_, _, rfl, r6r rfl rfl rfl (d0c (.cl rfl .nil))⟩)
 have fUp : n.up = true := hg4
 refine dv 3 ?_
 refine s5s (.int .i64 (n.round + 1)) rfl rfl rfl (a6s rfl rfl (by have := fS.1.2.2.2.2.2.1; omega) (by have := fS.1.2.2.2.2.2.1; omega)) ?_
 refine dv 0 ?_
 refine x0x rfl rfl rfl (u6u ..) (dv 0 ?_)
 refine x0x rfl rfl rfl (z1z ..) (dc 2 (aI ?_ ?_))<;>intro j<;>try simp at j
 ·have fU : ¬ (n.up = true ∧ n.round + 1 ≤ r ∧ r ≤ 9999) := by (intro h; omega)
  refine dv 2 ?_
  refine rlB p0p b1l ?_
  refine dv 4 ?_
  (rw [d7i fK fU]; exact ⟨_, _, rfl, r6r rfl rfl rfl (d0c (.cl rfl .nil))⟩)
 have fU : n.up = true ∧ n.round + 1 ≤ r ∧ r ≤ 9999 := ⟨fUp, by omega⟩
 refine dv 15 ?_
 refine x0x rfl rfl rfl (b6r ..) (rlB p0p b1l ?_)
 refine x3x (id := 4) p0p b1l rfl (dv 5 fun K K' => ?_)
 refine a0h 4 7 12 3 1 rfl rfl rfl rfl rfl (a0h 4 8 13 3 1 rfl rfl rfl rfl rfl ?_)
 refine x4x (ι := Nat) (fun i γ1 => [(9, pI (i : Int))]) (fun i γ1 => [(12, ((γ1 12), .row 3 1 (((n.views.take i).map Vi.inc).map a3e))), (13, ((γ1 13), .row 3 1 (((n.views.take i).map Vi.version).map a3e))), (4, ((0 + 1), .box 79 [pI 3, pI n.id, pI 0, pI n.inc, pI 0, pI r, pI (c0y n), .ref 12 (γ1 12), .ref 13 (γ1 13), .pv (.slice none 0 0), .pv (.slice none 0 0)])), (5, ((γ1 5), .dead)), (6, ((γ1 6), .dead)), (7, ((γ1 7), .dead)), (8, ((γ1 8), .dead))]) (fun i => i ≤ 3) (fun i => 3 - i) (q6q [2, 4, 5, 7, 8] rfl) (a0p [0, 1, 2, 3, 9, 10, 11] rfl) 0 (by omega) [0, 0, 0, 0, 0, _, _, _, _, 0, 0, 0, _, _] x6x (HE.row rfl (by rw [List.take_zero]; rfl) (HE.row rfl (by rw [List.take_zero]; rfl) (HE.box rfl rfl (HE.kill rfl (HE.kill rfl (HE.kill rfl (HE.kill rfl HE.nil))))))) rfl fun i γ1 hi => ?_
 refine dc 4 (fun K K' => aS ?_ ?_)<;>intro j<;>try simp at j
 ·obtain rfl : i = n.views.length := by omega
  rw [List.take_length]
  refine dv 8 ?_
  (rw [e7t fK fU, show e3h n r = { e3h n r with g := c0y n } from by rw [c4p fK]; rfl]; exact ⟨_, _, rfl, r6r (n := { n with round := r, low := 41 }) rfl rfl rfl (.agg rfl (.cl rfl (.cl rfl (.cl rfl (.cl rfl (.cl rfl (.cl rfl (.cl rfl (.ref rfl (Le.ow_map _ (fun _ => rfl) (fun _ => rfl)) (.ref rfl (Le.ow_map _ (fun _ => rfl) (fun _ => rfl)) (.le rfl .nil (.le rfl .nil .nil))))))))))) (.cl rfl .nil))⟩)
 obtain ⟨v, hv⟩ := gE n.views i
 refine dv 12 fun K K' => ?_
 refine a9c (id := 5) a0o rfl s3s rfl rfl rfl rfl rfl ?_
 refine y6y (zs := ((n.views.take i).map Vi.inc ++ [v.inc]).map a3e) rfl rfl a0o rfl s3s rfl rfl rfl rfl (by rfl) (z7z _ _ _) (by (simp only [a0e, r7r, a0b, a0d, a0u, T3]; omega)) ?_
 refine dv 11 ?_
 refine a9c (id := 7) a0o rfl s3s rfl rfl rfl rfl rfl ?_
 refine y6y (zs := ((n.views.take i).map Vi.version ++ [v.version]).map a3e) rfl rfl a0o rfl s3s rfl rfl rfl rfl (by rfl) (z7z _ _ _) (by (simp only [a0e, r7r, a0b, a0d, a0u, T3]; omega)) ?_
 refine dv 4 ?_
 refine z8z rfl rfl rfl (dv 1 ?_)
 exact ⟨i + 1, ⟨by omega, by omega⟩, [0, 0, 0, 0, 0, _, _, _, _, 0, 0, 0, _, _], (Cov.cons' (t := 9) rfl (by rw [x9x (by omega) (by omega)]; rfl) Cov.nil), x6x, (HE.row rfl (by simp only [z6z hv, List.map_append, List.map_cons, List.map_nil]) (HE.row rfl (by simp only [z6z hv, List.map_append, List.map_cons, List.map_nil]) (HE.box rfl rfl (HE.kill rfl (HE.kill rfl (HE.kill rfl (HE.kill rfl HE.nil))))))), x5x, rfl⟩
end
section
theorem c1j (c : Bool) (l : La) (u : Int) (hok : a7r l = true) : a0t Tryz.prog 25 [.agg (q7q c l), .pv (.int .i64 u)] (.tup [.agg (q7q true (c4s u l)), q3q true (c4t u l), r0r true (c9u u l)]) := by
 refine pX Tryz.f25 [.agg (q7q true (c4s u l)), q3q true (c4t u l), r0r true (c9u u l)] 8 ?_
 obtain ⟨h1, h2⟩ := a2n hok
 have hlb := f2c hok
 refine dv 1 ?_
 refine y0y (id := 0) rfl rfl rfl (x3x (id := 1) a0m a6r rfl (dv 3 ?_))
 refine y1y (id := 2) u3u rfl z2z rfl (dv 2 ?_)
 refine y1y (id := 3) a1b rfl w9w rfl (dv 4 fun K K' => ?_)
 refine x0x rfl rfl rfl (a4k ..) (dv 1 ?_)
 refine a0l rfl (fun hc2 => ?_) (fun hc2 => ?_)
 ·simp [hok] at hc2
 try simp at hc2
 refine dv 6 ?_
 refine x3x (id := 4) a5s d1l rfl (dv 3 fun K K' => ?_)
 refine x4x (ι := Nat) (fun i γ1 => [(7, .ref 2 (γ1 2)), (8, .ref 3 (γ1 3)), (9, pI (i : Int))]) (fun i γ1 => [(2, ((γ1 2), .row 56 7 (((l.done.take i).flatMap Pa.sends).map y9y))), (3, ((γ1 3), .row 141 5 (((l.done.take i).flatMap Pa.outs).map q8q))), (4, ((0 + 1), .box 41 [pI (b6h l i).x, pI (b6h l i).y, pI (b6h l i).count])), (5, ((γ1 5), .dead)), (6, ((γ1 6), .dead))]) (fun i => i ≤ l.done.length ∧ (∀ (j : Nat) p, j < i → l.done[j]? = some p → p.ev.time < u)) (fun i => l.done.length - i) (q6q [1, 2, 4, 10] rfl) (a0p [0, 1, 7] rfl) 0 ⟨by omega, fun j p hj => by omega⟩ [0, 0, _, _, 0, _, _] x6x (HE.row rfl (by rfl) (HE.row rfl (by rfl) (HE.box rfl rfl (HE.kill rfl (HE.kill rfl HE.nil))))) rfl fun i γ1 hi => ?_
 obtain ⟨k1, k2⟩ := hi
 refine dc 8 (fun K K' => aS ?_ ?_)<;>intro h<;>try simp at h
 ·have hcut : d2q u l.done = i := d4x k1 k2 (fun q hq => by rw [List.getElem?_eq_none (by omega)] at hq; cases hq)
  refine dv 9 ?_
  refine a0l rfl (fun hc7 => ?_) (fun hc7 => ?_)
  ·simp [hok] at hc7
  try simp at hc7
  have hfs := b4p (f := Pa.sends) (m := 2) k1 fun p hp => (h2 p hp).1
  have hfo := b4p (f := Pa.outs) (m := 2) k1 fun p hp => (h2 p hp).2
  refine dv 7 ?_
  refine x0x rfl rfl rfl (a3l c l i l.done.length hlb.1 (by omega) hlb.1 hlb.2) ?_
  refine x3x (id := 7) a0m a6r rfl (dv 4 ?_)
  refine a1k rfl rfl a5s rfl rfl rfl rfl (s0s rfl) rfl ?_
  refine p7p 7 rfl rfl (fun _ => rfl) ?_
  refine p7p 8 rfl rfl (fun _ => rfl) ?_
  refine dv 3 ?_
  refine x0x rfl rfl rfl (a1y true _ (by omega)) ?_
  refine dv 1 ?_
  refine x0x rfl rfl rfl (a4x true _ (by omega)) ?_
  refine dv 4 ?_
  subst hcut
  rw [show c4s u l = ⟨l.proc, b6h l (d2q u l.done), (l.done.take l.done.length).drop (d2q u l.done)⟩ from by rw [List.take_length]; rfl]
  exact ⟨_, _, rfl, .agg rfl (.cl rfl (.cl rfl (.cl rfl (.cl rfl (.cl rfl .nil))))) (.cl rfl (.cl rfl .nil))⟩
 obtain ⟨p, hp⟩ := gE l.done i
 have hpb := h2 p (List.mem_of_getElem? hp)
 refine dc 10 (aS ?_ ?_)<;>intro hc6<;>try simp at hc6
 ·have hcut : d2q u l.done = i := by exact d4x k1 k2 (fun q hq => by rw [hp] at hq; cases hq; omega)
  have hfs := b4p (f := Pa.sends) (m := 2) k1 fun p hp => (h2 p hp).1
  have hfo := b4p (f := Pa.outs) (m := 2) k1 fun p hp => (h2 p hp).2
  refine dv 7 ?_
  refine x0x rfl rfl rfl (a3l c l i l.done.length hlb.1 (by omega) hlb.1 hlb.2) ?_
  refine x3x (id := 7) a0m a6r rfl (dv 4 ?_)
  refine a1k rfl rfl a5s rfl rfl rfl rfl (s0s rfl) rfl ?_
  refine p7p 7 rfl rfl (fun _ => rfl) ?_
  refine p7p 8 rfl rfl (fun _ => rfl) ?_
  refine dv 3 ?_
  refine x0x rfl rfl rfl (a1y true _ (by omega)) ?_
  refine dv 1 ?_
  refine x0x rfl rfl rfl (a4x true _ (by omega)) ?_
  refine dv 4 ?_
  subst hcut
  rw [show c4s u l = ⟨l.proc, b6h l (d2q u l.done), (l.done.take l.done.length).drop (d2q u l.done)⟩ from by rw [List.take_length]; rfl]
  exact ⟨_, _, rfl, .agg rfl (.cl rfl (.cl rfl (.cl rfl (.cl rfl (.cl rfl .nil))))) (.cl rfl (.cl rfl .nil))⟩
 have hlt : p.ev.time < u := hc6
 have hfs := b4p (f := Pa.sends) (m := 2) (show i ≤ l.done.length by omega) fun p hp => (h2 p hp).1
 have hfo := b4p (f := Pa.outs) (m := 2) (show i ≤ l.done.length by omega) fun p hp => (h2 p hp).2
 refine dv 8 ?_
 refine v4v (out := .agg (s1s p.after)) rfl a5s rfl ?_
 refine dv 9 ?_
 refine w6w (zs := ((l.done.take i).flatMap Pa.sends ++ p.sends).map y9y) rfl rfl u3u rfl z2z rfl rfl rfl (z9z (fun _ => rfl) _) (a7x _ _ _) (by (simp only [a0e, r7r, a0b, a0d, a0u, b3x, T56]; omega)) ?_
 refine dv 9 ?_
 refine w6w (zs := ((l.done.take i).flatMap Pa.outs ++ p.outs).map q8q) rfl rfl a1b rfl w9w rfl rfl rfl (z9z (fun _ => rfl) _) (a7x _ _ _) (by (simp only [a0e, r7r, a0b, a0d, a0u, b3x, T141]; omega)) ?_
 refine dv 3 ?_
 refine x8x (b := 1) rfl rfl (by omega) (dv 1 ?_)
 exact ⟨i + 1, ⟨⟨by omega, fun j q hj hq => by by_cases e : j = i; (subst e; rw [hp] at hq; cases hq; exact hlt); exact k2 j q (by omega) hq⟩, by omega⟩, [0, 0, _, _, 0, _, _], x6x, x6x, (HE.row rfl (by rw [a3y hp]) (HE.row rfl (by rw [a3y hp]) (HE.box rfl (by rw [c4r hp]; rfl) (HE.kill rfl (HE.kill rfl HE.nil))))), x5x, rfl⟩
end
section
theorem b2f (c : Bool) (n : Nd) (r g : Int) : a0t Tryz.prog 67 [.agg (u1u c n), .pv (.int .i64 r), .pv (.int .i64 g)] (.tup [.agg (u1u true (s2s n r g).1), .pv (.bool (s2s n r g).2)]) := by
 refine pX Tryz.f67 [.agg (u1u true (s2s n r g).1), .pv (.bool (s2s n r g).2)] 19 ?_
 refine dv 1 ?_
 refine y0y (id := 0) rfl rfl rfl (x3x (id := 1) u9u q1q rfl (dv 4 fun K K' => ?_))
 refine x0x rfl rfl rfl (p2p c n) (dc 1 (aI ?_ ?_))<;>intro hc2<;>try simp at hc2
 ·have fX : ¬ y3y n := a1h (by simpa using hc2)
  refine dv 1 ?_
  refine rlB u9u q1q ?_
  refine dv 3 ?_
  (rw [e7z fX]; exact ⟨_, _, rfl, b7p (.cl rfl .nil)⟩)
 have fK : y3y n := a1d.1 (by simpa using hc2)
 have fS := fK.1
 have fB := w5w fS
 have fV := fS.2.2.2.2.2.1
 have fb := c0x fS
 have fM0 := c4p fK
 have fL := c9v fS
 have fG := fS.1.2.2.1
 refine dv 3 ?_
 refine rlM [13, 14, 15] [_, _, _] (y5y c n fb) rfl rfl rfl ?_
 refine x3x (id := 2) u9u q1q rfl (dc 7 (fun K K' => aS ?_ ?_))<;>intro hg4<;>try simp at hg4
 ·have fU : ¬ b4q n r g := by (rintro ⟨m1, m2, m3, m4, m5, m6, m7, m8⟩; (simp_all; done))
  refine dv 40 ?_
  (rw [b2r fK fU]; exact ⟨_, _, rfl, r6r (n := n) rfl rfl rfl (.cl rfl .nil)⟩)
 have fUp : n.up = true := hg4
 refine dc 4 (aS ?_ ?_)<;>intro h<;>try simp at h
 ·have fU : ¬ b4q n r g := by (rintro ⟨m1, m2, m3, m4, m5, m6, m7, m8⟩; omega)
  refine dv 36 ?_
  (rw [b2r fK fU]; exact ⟨_, _, rfl, r6r (n := n) rfl rfl rfl (.cl rfl .nil)⟩)
 refine dc 6 (aS ?_ ?_)<;>intro h<;>try simp at h
 ·have fU : ¬ b4q n r g := by (rintro ⟨m1, m2, m3, m4, m5, m6, m7, m8⟩; omega)
  refine dv 30 ?_
  (rw [b2r fK fU]; exact ⟨_, _, rfl, r6r (n := n) rfl rfl rfl (.cl rfl .nil)⟩)
 refine dv 3 ?_
 refine s5s (.int .i64 (n.g + 1)) rfl rfl rfl (a6s rfl rfl (by omega) (by omega)) ?_
 refine dv 0 ?_
 refine x0x rfl rfl rfl (z1z ..) (dc 3 (aS ?_ ?_))<;>intro h<;>try simp at h
 ·have fU : ¬ b4q n r g := by (rintro ⟨m1, m2, m3, m4, m5, m6, m7, m8⟩; omega)
  refine dv 22 ?_
  (rw [b2r fK fU]; exact ⟨_, _, rfl, r6r (n := n) rfl rfl rfl (.cl rfl .nil)⟩)
 refine dc 6 (aS ?_ ?_)<;>intro h<;>try simp at h
 ·have fU : ¬ b4q n r g := by (rintro ⟨m1, m2, m3, m4, m5, m6, m7, m8⟩; omega)
  refine dv 16 ?_
  (rw [b2r fK fU]; exact ⟨_, _, rfl, r6r (n := n) rfl rfl rfl (.cl rfl .nil)⟩)
 refine dv 1 ?_
 refine x0x rfl rfl rfl (b6r c n) (dc 4 (aS ?_ ?_))<;>intro h<;>try simp at h
 ·have fU : ¬ b4q n r g := by (rintro ⟨m1, m2, m3, m4, m5, m6, m7, m8⟩; omega)
  refine dv 10 ?_
  (rw [b2r fK fU]; exact ⟨_, _, rfl, r6r (n := n) rfl rfl rfl (.cl rfl .nil)⟩)
 refine dv 2 ?_
 refine x0x rfl rfl rfl (u6u ..) (dc 2 (aI ?_ ?_))<;>intro h<;>try simp at h
 ·have fU : ¬ b4q n r g := by (rintro ⟨m1, m2, m3, m4, m5, m6, m7, m8⟩; omega)
  refine dv 5 ?_
  (rw [b2r fK fU]; exact ⟨_, _, rfl, r6r (n := n) rfl rfl rfl (.cl rfl .nil)⟩)
 have fM : b4q n r g := ⟨fUp, by omega, by omega, by omega, by omega, by omega, by omega, by omega⟩
 obtain ⟨k, hk, hk3, hkn⟩ := f5o fS
 have hkl := fS.2.2.2.2.2.2.1
 obtain ⟨kn, hkv⟩ := gE n.known k
 have hKk : n.known.set n.id.toNat g = n.known.set k g := by rw [hkn]
 refine dv 13 fun K K' => ?_
 refine x4x (ι := Nat) (fun i γ1 => [(9, q3q c (a4l n g i)), (10, r0r c (b3g n g i)), (11, pI (i : Int))]) (fun i γ1 => [(13, ((0 + 1), .row 44 5 ((c0z g n.lanes i).map (q7q true)))), (3, ((γ1 3), .dead)), (4, ((γ1 4), .dead)), (5, ((γ1 5), .dead)), (6, ((γ1 6), .dead)), (7, ((γ1 7), .dead)), (8, ((γ1 8), .dead)), (9, ((γ1 9), .dead))]) (fun i => i ≤ n.lanes.length) (fun i => n.lanes.length - i) (q6q [2, 3, 6, 8] rfl) (a0p [0, 1, 2, 10, 11, 12, 14, 15, 16, 17, 18] rfl) 0 (by omega) [0, 0, 0, _, _, _, _, _, _, _] (Cov.cons' (t := 9) rfl (by rw [d4y]) (Cov.cons' (t := 10) rfl (by rw [d4z]) (x7x 11 rfl Cov.nil))) (HE.row rfl (by rw [d9m]) (HE.kill rfl (HE.kill rfl (HE.kill rfl (HE.kill rfl (HE.kill rfl (HE.kill rfl (HE.kill rfl HE.nil)))))))) rfl fun i γ1 hi => ?_
 refine dc 7 (fun K K' => aI ?_ ?_)<;>intro h<;>try simp at h
 ·obtain ⟨l, hp⟩ := gE n.lanes i
  have hkt := d2r fS g (i + 1)
  rw [c4u hp, List.length_append] at hkt
  have hot := d2s fS g (i + 1)
  rw [c4v hp, List.length_append] at hot
  have hlt2 : i < (c0z g n.lanes i).length := by rw [e3k _ _ (by omega)]; omega
  have hll := fL l (List.mem_of_getElem? hp)
  refine dv 10 fun K K' => ?_
  refine x0x rfl rfl rfl (c1j c l g hll) (dv 4 ?_)
  refine x3x (id := 3) a0m a6r rfl (dv 8 ?_)
  refine z0z (j := i) rfl rfl a7v rfl a0m rfl rfl hlt2 ?_
  refine v6v (el' := c4s g l) rfl rfl a0m rfl rfl rfl (e7x hp) rfl (s4s rfl) rfl rfl ?_
  refine dv 1 ?_
  refine y1y (id := 4) u3u rfl z2z rfl (dv 1 ?_)
  refine w6w (zs := (a4l n g i).map y9y) rfl rfl u3u rfl z2z rfl rfl rfl (z9z (fun _ => rfl) _) rfl (by (simp only [a0e, r7r, a0b, a0d, a0u, T56]; omega)) ?_
  refine dv 1 ?_
  refine a2c v3v (zs := (a4l n g i ++ c4t g l).map y9y) rfl rfl u3u rfl z2z rfl rfl rfl (z9z (fun _ => rfl) _) (a7x _ _ _) (by (simp only [a0e, r7r, a0b, a0d, a0u, T56]; omega)) (Le.ow_map _ (fun _ => rfl) (fun _ => rfl)) ?_
  refine dv 2 ?_
  refine y1y (id := 7) a1b rfl w9w rfl (dv 1 ?_)
  refine w6w (zs := (b3g n g i).map q8q) rfl rfl a1b rfl w9w rfl rfl rfl (z9z (fun _ => rfl) _) rfl (by (simp only [a0e, r7r, a0b, a0d, a0u, T141]; omega)) ?_
  refine dv 1 ?_
  refine a2c v3v (zs := (b3g n g i ++ c9u g l).map q8q) rfl rfl a1b rfl w9w rfl rfl rfl (z9z (fun _ => rfl) _) (a7x _ _ _) (by (simp only [a0e, r7r, a0b, a0d, a0u, T141]; omega)) (Le.ow_map _ (fun _ => rfl) (fun _ => rfl)) ?_
  refine dv 1 ?_
  refine d1q 9 rfl (.le rfl (Le.low_map (c := c) (l := a4l n g i ++ c4t g l) (f := y9y) fun _ => rfl) .nil) ?_
  refine d1q 10 rfl (.le rfl (Le.low_map (c := c) (l := b3g n g i ++ c9u g l) (f := q8q) fun _ => rfl) .nil) ?_
  refine dv 2 ?_
  refine z8z rfl rfl rfl (dv 1 ?_)
  exact ⟨i + 1, ⟨by omega, by omega⟩, [0, 0, 0, _, _, _, _, _, _, _], (Cov.cons' (t := 9) rfl (by rw [c4u hp]; rfl) (Cov.cons' (t := 10) rfl (by rw [c4v hp]; rfl) (Cov.cons' (t := 11) rfl (by rw [x9x (by omega) (by omega)]; rfl) Cov.nil))), x6x, (HE.row rfl (by rw [e3l hp]) (HE.kill rfl (HE.kill rfl (HE.kill rfl (HE.kill rfl (HE.kill rfl (HE.kill rfl (HE.kill rfl HE.nil)))))))), x5x, rfl⟩
 obtain rfl : i = n.lanes.length := by omega
 have hkt := d2r fS g n.lanes.length
 have hot := d2s fS g n.lanes.length
 have hkq : ∀ e ∈ z4z (a4l n g n.lanes.length), okE e = true := fun e he => e3m fS ((b5o _ _).1 he)
 have hqs := a9l (a4l n g n.lanes.length)
 refine dv 11 ?_
 refine z0z (j := k) rfl (by rw [← hk]; rfl) a0o rfl s3s rfl rfl (y7y hkv) ?_
 refine a8w (el' := g) rfl rfl s3s rfl rfl rfl hkv rfl (by omega) (.val rfl rfl .nil) rfl rfl ?_
 refine dv 1 ?_
 refine y1y (id := 10) u3u rfl z2z rfl (dv 4 ?_)
 refine x0x rfl rfl rfl (a1y c _ (by omega)) ?_
 refine dv 5 fun K K' => ?_
 refine x4x (ι := Nat) (fun j γ2 => [(15, pI (j : Int))]) (fun j γ2 => [(10, ((γ2 10), .row 56 7 ((((z4z (a4l n g n.lanes.length)).take j).filter (d2t (n.known.set k g))).map y9y))), (2, ((0 + 1), .box 65 [pI n.id, .pv (.bool n.up), pI n.inc, pI g, .ref 13 (0 + 1), .ref 10 (γ2 10), r0r true n.outs, pI n.led, pI n.version, .ref 14 (0 + 1), .ref 15 (0 + 1), pI n.round, pI n.low])), (11, ((γ2 11), .dead)), (12, ((γ2 12), .dead))]) (fun j => j ≤ (z4z (a4l n g n.lanes.length)).length) (fun j => (z4z (a4l n g n.lanes.length)).length - j) (q6q [3, 6, 8, 9, 10] rfl) (a0p [0, 1, 3, 4, 5, 6, 7, 8, 9, 13, 14, 15, 16, 17, 18] rfl) 0 (by omega) [0, 0, 0, 0, 0, 0, 0, 0, 0, 0, _, _, _] x6x (HE.row rfl (by rw [List.take_zero]; rfl) (HE.box rfl rfl (HE.kill rfl (HE.kill rfl HE.nil)))) rfl fun j γ2 hi => ?_
 refine dc 6 (fun K K' => aS ?_ ?_)<;>intro h<;>try simp at h
 ·obtain rfl : j = (z4z (a4l n g n.lanes.length)).length := by omega
  refine dv 3 ?_
  refine x0x rfl rfl rfl (a4x c _ (by omega)) ?_
  refine dv 3 fun K K' => ?_
  refine b4h 10 (xs' := (a4n n g).kept.map y9y) rfl (by simp only [a4n, hKk, c9w, List.take_length]) ?_
  refine b4h 13 (xs' := (a4n n g).lanes.map (q7q true)) rfl (by rw [e3j]; rfl) ?_
  refine b4h 15 (xs' := (a4n n g).known.map a3e) rfl (by simp only [a4n, hKk]) ?_
  refine v9v (b := c0e true (a4n n g).lanes) 2 4 rfl rfl rfl (.ref rfl (Le.ow_map _ (fun _ => rfl) (fun _ => rfl)) .nil) rfl rfl rfl rfl ?_
  refine v9v (b := q3q true (a4n n g).kept) 2 5 rfl rfl rfl (.ref rfl (Le.ow_map _ (fun _ => rfl) (fun _ => rfl)) .nil) rfl rfl rfl rfl ?_
  refine v9v (b := c1z true n.views) 2 9 rfl rfl rfl (.ref rfl (Le.ow_map _ (fun _ => rfl) (fun _ => rfl)) .nil) rfl rfl rfl rfl ?_
  refine v9v (b := a4p true (a4n n g).known) 2 10 rfl rfl rfl (.ref rfl (Le.ow_map _ (fun _ => rfl) (fun _ => rfl)) .nil) rfl rfl rfl rfl ?_
  refine dv 2 ?_
  refine x0x rfl rfl rfl (p2p true (a4n n g)) ?_
  refine dc 1 (aI ?_ ?_)<;>intro hc21<;>try simp at hc21
  ·have fX2 : ¬ y3y (a4n n g) := a1h (by simpa using hc21)
   refine dv 2 ?_
   refine rlM [16, 17, 18] [_, _, _] (y5y c n fb) rfl rfl rfl ?_
   refine dv 3 ?_
   (rw [d7j fK fM, b4s fX2]; exact ⟨_, _, rfl, r6r (n := n) rfl rfl rfl (.cl rfl .nil)⟩)
  have fK2 : y3y (a4n n g) := a1d.1 (by simpa using hc21)
  have fb2 := c0x fK2.1
  refine dv 3 ?_
  refine rlM [16, 17, 18] [_, _, _] (y5y true (a4n n g) fb2) rfl rfl rfl ?_
  refine dv 3 ?_
  (rw [d7j fK fM, b4r fK2]; exact ⟨_, _, rfl, r6r (n := a4n n g) rfl rfl rfl (.cl rfl .nil)⟩)
 obtain ⟨e, he⟩ := gE (z4z (a4l n g n.lanes.length)) j
 obtain ⟨k2, v, hk2, hv, hw⟩ := e7y (kn := n.known.set k g) (hkq e (List.mem_of_getElem? he)) (by rw [List.length_set]; exact hkl)
 have hfl : (((z4z (a4l n g n.lanes.length)).take j).filter (d2t (n.known.set k g))).length ≤ 1000000 := Nat.le_trans (List.length_filter_le _ _) (by rw [List.length_take]; omega)
 refine dv 16 fun K K' => ?_
 refine x0x rfl rfl rfl (a0s ..) ?_
 refine z0z (j := k2) rfl (by rw [← hk2]; rfl) a0o rfl s3s rfl rfl (y7y hv) ?_
 refine dc 2 (aS ?_ ?_)<;>intro h<;>try simp at h
 ·have hwf : ¬ d2t (n.known.set k g) e = true := by rw [hw]; simp; omega
  refine dv 3 ?_
  refine z8z rfl rfl rfl (dv 1 ?_)
  exact ⟨j + 1, ⟨by omega, by omega⟩, [0, 0, 0, 0, 0, 0, 0, 0, 0, 0, _, _, _], (Cov.cons' (t := 15) rfl (by rw [x9x (by omega) (by omega)]; rfl) Cov.nil), x6x, (HE.row rfl (by rw [q9q he]; rw [if_neg hwf, List.append_nil]) (HE.box rfl rfl (HE.kill rfl (HE.kill rfl HE.nil)))), x5x, rfl⟩
 have hwt : d2t (n.known.set k g) e = true := by rw [hw]; exact decide_eq_true (by omega)
 refine dv 7 ?_
 refine y2y (id := 11) u3u rfl z2z rfl rfl rfl rfl rfl rfl ?_
 refine y6y (zs := (((z4z (a4l n g n.lanes.length)).take j).filter (d2t (n.known.set k g)) ++ [e]).map y9y) rfl rfl u3u rfl z2z rfl rfl rfl rfl (by rfl) (z7z _ _ _) (by (simp only [a0e, r7r, a0b, a0d, a0u, T56]; omega)) ?_
 refine dv 4 ?_
 refine z8z rfl rfl rfl (dv 1 ?_)
 exact ⟨j + 1, ⟨by omega, by omega⟩, [0, 0, 0, 0, 0, 0, 0, 0, 0, 0, _, _, _], (Cov.cons' (t := 15) rfl (by rw [x9x (by omega) (by omega)]; rfl) Cov.nil), x6x, (HE.row rfl (by rw [q9q he]; rw [if_pos hwt]) (HE.box rfl rfl (HE.kill rfl (HE.kill rfl HE.nil)))), x5x, rfl⟩
end
section
def b0l (c : Bool) (vs : List Vi) : List (Value × AV) := vs.zipIdx.map fun p => (.int .i64 (p.2 : Int), .agg (a2b c p.1))
def b7x (n : Nat) : List Int := (List.range n).map fun (i : Nat) => (i : Int)
variable {c : Bool} {vs : List Vi} {i : Nat} {v : Vi}
theorem f4a (h : vs[i]? = some v) : (b0l c vs)[i]? = some (.int .i64 (i : Int), .agg (a2b c v)) := by
 rw [b0l, List.getElem?_map, List.getElem?_zipIdx, h]; simp
theorem a9s (c : Bool) (vs : List Vi) : (b0l c vs).map (·.1) = (b7x vs.length).map fun n => Value.int .i64 n := by
 apply List.ext_getElem?
 intro i
 simp only [b0l, b7x, List.getElem?_map, List.getElem?_zipIdx, List.getElem?_range]
 by_cases h : i < vs.length
 ·simp [h]
 ·rw [List.getElem?_eq_none (by omega : vs.length ≤ i)]; simp [h]
theorem d0q (h : i < n) : a7y (b7x n) (i : Int) = some i := by
 obtain ⟨j, hj⟩ := d1r (k := (i : Int)) (ks := b7x n) (List.mem_map.2 ⟨i, List.mem_range.2 h, rfl⟩)
 have := b7i hj
 simp only [b7x, List.getElem?_map] at this
 cases hr : (List.range n)[j]? with
 | none => rw [hr] at this; cases this
 | some k =>
  rw [hr] at this
  obtain ⟨q1, q2⟩ := List.getElem?_eq_some_iff.1 hr
  simp only [List.getElem_range] at q2
  simp only [Option.map_some, Option.some.injEq] at this
  have : j = i := by omega
  rw [hj, this]
theorem e9f (n : Nat) : a7y (b7x n) (n : Int) = none := b4e.2 fun h => by
 obtain ⟨k, h1, h2⟩ := List.mem_map.1 h
 rw [List.mem_range] at h1
 omega
theorem e5z (c : Bool) (vs : List Vi) (v : Vi) : b0l c (vs ++ [v]) = b0l c vs ++ [(.int .i64 (vs.length : Int), .agg (a2b c v))] := by
 simp [b0l, List.zipIdx_append]
theorem b9r {tt : TT} {et : TypeId} (h : vs[i]? = some v) : (∃ j kv, a7y (b7x vs.length) (i : Int) = some j ∧ (b0l c vs)[j]? = some (kv, .agg (a2b c v))) ∨ (a7y (b7x vs.length) (i : Int) = none ∧ ∃ S, tt et = some S ∧ AV.agg (a2b c v) = c0p S) :=
 .inl ⟨i, _, d0q (List.getElem?_eq_some_iff.1 h).1, f4a h⟩
theorem a1i (c : Bool) (vs : List Vi) : ∀ p ∈ b0l c vs, p.2.flatA = true := fun p hp => by
 obtain ⟨q, _, rfl⟩ := List.mem_map.1 hp; rfl
end
section
theorem d8g (c : Bool) (vs : List Vi) (k : Nat) (v : Vi) : b0l c (vs.set k v) = (b0l c vs).set k (.int .i64 (k : Int), .agg (a2b c v)) := by
 apply List.ext_getElem?
 intro i
 rw [List.getElem?_set, b0l, List.getElem?_map, List.getElem?_zipIdx, List.getElem?_set, b0l, List.getElem?_map, List.getElem?_zipIdx, List.length_map, List.length_zipIdx]
 by_cases e : k = i
 ·subst e
  by_cases h : k < vs.length
  ·simp [h]
  ·simp [h]
 ·simp [e]
theorem e9g {α : Type} {l : List α} {i : Nat} {a : α} (h : l[i]? = some a) : l.set i a = l := by
 obtain ⟨h1, rfl⟩ := List.getElem?_eq_some_iff.1 h
 exact List.set_getElem_self h1
end
section
theorem b5h (c : Bool) (n : Nd) (f inc ver g : Int) (es : List Ev) : a0t Tryz.prog 70 [.agg (u1u c n), .pv (.int .i64 f), .pv (.int .i64 inc), .pv (.int .i64 ver), .pv (.int .i64 g), q3q c es] (.agg (u1u true (w0w n f inc ver g es))) := by
 refine pX Tryz.f70 [.agg (u1u true (w0w n f inc ver g es))] 12 ?_
 refine dv 1 ?_
 refine y0y (id := 0) rfl rfl rfl (x3x (id := 1) u9u q1q rfl (dv 3 fun K K' => ?_))
 refine x0x rfl rfl rfl (p2p c n) (dc 1 (aI ?_ ?_))<;>intro hc2<;>try simp at hc2
 ·have fX : ¬ y3y n := a1h (by simpa using hc2)
  refine dv 1 ?_
  refine rlB u9u q1q ?_
  refine dv 2 ?_
  (rw [e3t fX]; exact ⟨_, _, rfl, e4g⟩)
 have fK : y3y n := a1d.1 (by simpa using hc2)
 have fS := fK.1
 have fB := w5w fS
 have fV := fS.2.2.2.2.2.1
 have fQ := fS.2.2.2.2.2.2.1
 have fb := c0x fS
 refine dv 3 ?_
 refine rlM [6, 7, 8] [_, _, _] (y5y c n fb) rfl rfl rfl ?_
 refine x3x (id := 2) u9u q1q rfl (dc 7 (fun K K' => aS ?_ ?_))<;>intro hg4<;>try simp at hg4
 ·have fU : ¬ a2o n f inc ver g es := by (rintro ⟨m1, m2, m3, m4, m5, m6, m7, m8, m9⟩; (simp_all; done))
  refine dv 37 ?_
  (rw [b4t fK fU]; exact ⟨_, _, rfl, b7o (n := n) rfl rfl rfl⟩)
 have fUp : n.up = true := hg4
 refine dv 1 ?_
 refine x0x rfl rfl rfl (z1z ..) (dc 3 (aS ?_ ?_))<;>intro h<;>try simp at h
 ·have fU : ¬ a2o n f inc ver g es := by (rintro ⟨m1, m2, m3, m4, m5, m6, m7, m8, m9⟩; omega)
  refine dv 32 ?_
  (rw [b4t fK fU]; exact ⟨_, _, rfl, b7o (n := n) rfl rfl rfl⟩)
 refine dc 6 (aS ?_ ?_)<;>intro hg6<;>try simp at hg6
 ·have fU : ¬ a2o n f inc ver g es := by (rintro ⟨m1, m2, m3, m4, m5, m6, m7, m8, m9⟩; omega)
  refine dv 26 ?_
  (rw [b4t fK fU]; exact ⟨_, _, rfl, b7o (n := n) rfl rfl rfl⟩)
 have f4 : ¬ f = n.id := hg6
 refine dv 3 ?_
 refine rlB r1r a4s ?_
 refine dv 0 ?_
 refine x0x rfl rfl rfl (b3k c ⟨inc, ver, es⟩) ?_
 refine dc 3 (aS ?_ ?_)<;>intro hg7<;>try simp at hg7
 ·have fvi : ¬ d6z ⟨inc, ver, es⟩ := a1h (by simpa using hg7)
  have fU : ¬ a2o n f inc ver g es := by (rintro ⟨m1, m2, m3, m4, m5, m6, m7, m8, m9⟩; exact fvi ⟨⟨by show 0 ≤ inc; omega, m5.2⟩, m6, m8⟩)
  refine dv 18 ?_
  (rw [b4t fK fU]; exact ⟨_, _, rfl, b7o (n := n) rfl rfl rfl⟩)
 have fvi : d6z ⟨inc, ver, es⟩ := a1d.1 (by simpa using hg7)
 have fv1 := fvi.1
 have fv2 := fvi.2.1
 have fv3 : a9i okE a2t es 100 = true := fvi.2.2
 dsimp only at fv1 fv2
 refine dc 4 (aS ?_ ?_)<;>intro h<;>try simp at h
 ·have fU : ¬ a2o n f inc ver g es := by (rintro ⟨m1, m2, m3, m4, m5, m6, m7, m8, m9⟩; omega)
  refine dv 14 ?_
  (rw [b4t fK fU]; exact ⟨_, _, rfl, b7o (n := n) rfl rfl rfl⟩)
 refine dv 1 ?_
 refine x0x rfl rfl rfl (z1z ..) (dc 3 (aS ?_ ?_))<;>intro h<;>try simp at h
 ·have fU : ¬ a2o n f inc ver g es := by (rintro ⟨m1, m2, m3, m4, m5, m6, m7, m8, m9⟩; omega)
  refine dv 9 ?_
  (rw [b4t fK fU]; exact ⟨_, _, rfl, b7o (n := n) rfl rfl rfl⟩)
 refine dv 2 ?_
 refine x0x rfl rfl rfl (u6u ..) (dc 2 (aI ?_ ?_))<;>intro h<;>try simp at h
 ·have fU : ¬ a2o n f inc ver g es := by (rintro ⟨m1, m2, m3, m4, m5, m6, m7, m8, m9⟩; omega)
  refine dv 4 ?_
  (rw [b4t fK fU]; exact ⟨_, _, rfl, b7o (n := n) rfl rfl rfl⟩)
 refine dv 5 fun K K' => ?_
 refine u0u 5 rfl fun hlen => ?_
 refine x4x (ι := Nat) (fun i γ1 => [(14, pI (i : Int))]) (fun i γ1 => []) (fun i => i ≤ es.length ∧ c9p es (fun _ e => p1p e.to = n.id ∧ (e.from' = -1 ∨ p1p e.from' = f)) i) (fun i => es.length - i) (q6q [1, 2, 3, 4, 5, 6, 12, 13] rfl) (a0p [0, 1, 2, 3, 4, 5, 6, 7, 8, 9, 10, 11] rfl) 0 ⟨by omega, a1p⟩ [] x6x x5x rfl fun i γ1 hi => ?_
 obtain ⟨k1, k2⟩ := hi
 refine dc 6 (fun K K' => aI ?_ ?_)<;>intro h<;>try simp at h
 ·obtain ⟨e, he⟩ := gE es i
  have heo : c1x e := of_decide_eq_true ((r3r fv3).2 e (List.mem_of_getElem? he))
  have heb := heo.2.2.1
  refine dv 9 fun K K' => ?_
  refine x0x rfl rfl rfl (a0s ..) (dc 4 (aS ?_ ?_))<;>intro hg15<;>try simp at hg15
  ·have fE : ¬ (p1p e.to = n.id ∧ (e.from' = -1 ∨ p1p e.from' = f)) := fun q => (by have := q.1; omega)
   refine dv 17 ?_
   have fU : ¬ a2o n f inc ver g es := fun q => fE (q.2.2.2.2.2.2.2.2 e (List.mem_of_getElem? he))
   refine dv 4 ?_
   (rw [b4t fK fU]; exact ⟨_, _, rfl, b7o (n := n) rfl rfl rfl⟩)
  have e1 : p1p e.to = n.id := hg15
  refine dc 7 (aS ?_ ?_)<;>intro h<;>try simp at h
  ·have hE : p1p e.to = n.id ∧ (e.from' = -1 ∨ p1p e.from' = f) := ⟨e1, .inl (by omega)⟩
   refine dv 13 ?_
   refine z8z rfl rfl rfl (dv 1 ?_)
   exact ⟨i + 1, ⟨⟨by omega, s6s k2 he hE⟩, by omega⟩, [], (Cov.cons' (t := 14) rfl (by rw [x9x (by omega) (by omega)]; rfl) Cov.nil), x6x, x5x, x5x, rfl⟩
  refine dv 5 ?_
  refine x0x rfl rfl rfl (a0s ..) (dc 4 (aS ?_ ?_))<;>intro hc17<;>try simp at hc17
  ·have hE : p1p e.to = n.id ∧ (e.from' = -1 ∨ p1p e.from' = f) := ⟨e1, .inr hc17⟩
   refine dv 3 ?_
   refine z8z rfl rfl rfl (dv 1 ?_)
   exact ⟨i + 1, ⟨⟨by omega, s6s k2 he hE⟩, by omega⟩, [], (Cov.cons' (t := 14) rfl (by rw [x9x (by omega) (by omega)]; rfl) Cov.nil), x6x, x5x, x5x, rfl⟩
  have fE : ¬ (p1p e.to = n.id ∧ (e.from' = -1 ∨ p1p e.from' = f)) := by (rintro ⟨q1, q2 | q2⟩ <;> omega)
  have fU : ¬ a2o n f inc ver g es := fun q => fE (q.2.2.2.2.2.2.2.2 e (List.mem_of_getElem? he))
  refine dv 4 ?_
  (rw [b4t fK fU]; exact ⟨_, _, rfl, b7o (n := n) rfl rfl rfl⟩)
 have hall := a3d k2 (by omega)
 have fH : a2o n f inc ver g es := ⟨fUp, by omega, by omega, f4, by omega, by omega, by omega, fv3, fun e he => by obtain ⟨i, hi⟩ := List.getElem?_of_mem he; exact hall i e hi⟩
 obtain ⟨k, rfl⟩ : ∃ k : Nat, f = (k : Int) := ⟨f.toNat, by have := fH.2.2.1; omega⟩
 have hk3 : k < 3 := by have := fH.2.2.1; omega
 obtain ⟨kn, hkn⟩ := gE n.known k
 obtain ⟨v, hv⟩ := gE n.views k
 have hes : es.length ≤ 100 := by have := (r3r fH.2.2.2.2.2.2.2.1).1; omega
 obtain ⟨M, hM⟩ : ∃ M, M = b3u n k inc ver g es := ⟨_, rfl⟩
 have hv9 : n.version ≤ 9998 := by have := fH.2.1; omega
 have hv0 := fS.1.2.2.2.2.1.1
 refine dv 1 ?_
 refine p9p (ι := Unit) (fun _i γ2 => []) (fun _i γ2 => [(8, ((0 + 1), .row 3 1 ((n.known.set k (max kn g)).map a3e)))]) (fun _i => True) (q6q [1, 2, 3, 5, 6, 12, 13] rfl) (a0p [0, 1, 2, 3, 4, 5, 6, 7, 9, 10, 11] rfl) ?_ fun _i γ2 hi => ?_
 ·refine dv 5 ?_
  refine z0z (j := k) rfl rfl a0o rfl s3s rfl rfl (y7y hkn) ?_
  refine dc 2 (aS ?_ ?_)<;>intro h<;>try simp at h
  ·have hmx : max kn g = kn := by omega
   refine dv 1 ?_
   exact ⟨(), trivial, [], x6x, x6x, (HE.row rfl (by rw [hmx, e9g hkn]) HE.nil), x5x, rfl⟩
  have hmx : max kn g = g := by omega
  refine dv 5 ?_
  refine z0z (j := k) rfl rfl a0o rfl s3s rfl rfl (y7y hkn) ?_
  refine a8w (el' := g) rfl rfl s3s rfl rfl rfl hkn rfl (by omega) (.val rfl rfl .nil) rfl rfl ?_
  exact ⟨(), trivial, [], x6x, x6x, (HE.row rfl (by (rw [hmx]; done)) HE.nil), x5x, rfl⟩
 ·try dsimp only [b1e, b1f]
  refine dv 6 ?_
  refine x3x (id := 3) r1r a4s rfl (dv 1 ?_)
  refine p9p (ι := Unit) (fun _i γ3 => []) (fun _i γ3 => [(2, ((0 + 1), .box 65 [pI M.id, .pv (.bool M.up), pI M.inc, pI M.g, .ref 6 (0 + 1), q3q true M.kept, r0r true M.outs, pI M.led, pI M.version, .ref 7 (0 + 1), .ref 8 (0 + 1), pI M.round, pI M.low])), (6, ((0 + 1), .row 44 5 ((M.lanes).map (q7q true)))), (7, ((0 + 1), .row 190 3 ((M.views).map (a2b true)))), (8, ((0 + 1), .row 3 1 (M.known.map a3e))), (4, ((γ3 4), .dead)), (5, ((γ3 5), .dead))]) (fun _i => True) (q6q [6, 12, 13] rfl) (a0p [0, 1, 3, 9, 10, 11] rfl) ?_ fun _i γ3 hi => ?_
  ·refine dc 6 (aS ?_ ?_)<;>intro h<;>try simp at h
   ·refine dv 11 ?_
    have hL : b9l v inc ver := .inl (by omega)
    refine dv 6 ?_
    refine x0x rfl rfl rfl (b3l c v.events es n.g) (dc 7 (fun K K' => aS ?_ ?_))<;>intro h<;>try simp at h
    ·have hlow : n.low = M.low := by rw [hM, a0c hv hkn hL]; show _ = chg n.g v.events (chg n.g es n.low v.events) es; rw [c2u n.g v.events es (m := n.low) (by have := fS.1.2.2.2.2.2.2; omega)]; omega
     refine dv 7 ?_
     refine y1y (id := 4) u3u rfl z2z rfl (dv 1 ?_)
     refine a2c v3v (zs := es.map y9y) rfl rfl u3u rfl z2z rfl rfl rfl (z9z (fun _ => rfl) _) rfl (by simp only [a0e, T56]; omega) (Le.ow_map _ (fun _ => rfl) (fun _ => rfl)) ?_
     refine rlB r1r a4s ?_
     refine z0z (j := k) rfl rfl a9y rfl r1r rfl rfl (y7y hv) ?_
     refine v6v (el' := ⟨inc, ver, es⟩) rfl rfl r1r rfl rfl rfl hv rfl (s4s rfl) rfl rfl ?_
     refine dv 0 ?_
     exact ⟨(), trivial, [0, 0, 0, 0, _, _], x6x, x6x, (HE.box rfl (by rw [← hlow]; (rw [hM, a0c hv hkn hL] <;> rfl)) (HE.row rfl (by (rw [hM, a0c hv hkn hL] <;> rfl)) (HE.row rfl (by (rw [hM, a0c hv hkn hL] <;> rfl)) (HE.row rfl (by (rw [hM, a0c hv hkn hL] <;> rfl)) (HE.kill rfl (HE.kill rfl HE.nil)))))), x5x, rfl⟩
    have hlow : chg n.g v.events (chg n.g es 41 v.events) es = M.low := by rw [hM, a0c hv hkn hL]; show _ = chg n.g v.events (chg n.g es n.low v.events) es; rw [c2u n.g v.events es (m := n.low) (by have := fS.1.2.2.2.2.2.2; omega)]; omega
    refine dv 10 ?_
    refine y1y (id := 4) u3u rfl z2z rfl (dv 1 ?_)
    refine a2c v3v (zs := es.map y9y) rfl rfl u3u rfl z2z rfl rfl rfl (z9z (fun _ => rfl) _) rfl (by simp only [a0e, T56]; omega) (Le.ow_map _ (fun _ => rfl) (fun _ => rfl)) ?_
    refine rlB r1r a4s ?_
    refine z0z (j := k) rfl rfl a9y rfl r1r rfl rfl (y7y hv) ?_
    refine v6v (el' := ⟨inc, ver, es⟩) rfl rfl r1r rfl rfl rfl hv rfl (s4s rfl) rfl rfl ?_
    refine dv 0 ?_
    exact ⟨(), trivial, [0, 0, 0, 0, _, _], x6x, x6x, (HE.box rfl (by rw [← hlow]; (rw [hM, a0c hv hkn hL] <;> rfl)) (HE.row rfl (by (rw [hM, a0c hv hkn hL] <;> rfl)) (HE.row rfl (by (rw [hM, a0c hv hkn hL] <;> rfl)) (HE.row rfl (by (rw [hM, a0c hv hkn hL] <;> rfl)) (HE.kill rfl (HE.kill rfl HE.nil)))))), x5x, rfl⟩
   refine dc 5 (aS ?_ ?_)<;>intro h<;>try simp at h
   ·refine dv 6 ?_
    have hL : ¬ b9l v inc ver := by rintro (q | ⟨q1, q2⟩) <;> omega
    have hlow : n.low = M.low := by rw [hM, a2d hv hkn hL]
    refine dv 1 ?_
    exact ⟨(), trivial, [0, 0, 0, 0, _, _], x6x, x6x, (HE.box rfl (by rw [← hlow]; (rw [hM, a2d hv hkn hL] <;> rfl)) (HE.row rfl (by (rw [hM, a2d hv hkn hL] <;> rfl)) (HE.row rfl (by (rw [hM, a2d hv hkn hL] <;> rfl)) (HE.row rfl (by (rw [hM, a2d hv hkn hL] <;> rfl)) (HE.kill rfl (HE.kill rfl HE.nil)))))), x5x, rfl⟩
   refine dc 6 (aS ?_ ?_)<;>intro h<;>try simp at h
   ·have hL : ¬ b9l v inc ver := by rintro (q | ⟨q1, q2⟩) <;> omega
    have hlow : n.low = M.low := by rw [hM, a2d hv hkn hL]
    refine dv 1 ?_
    exact ⟨(), trivial, [0, 0, 0, 0, _, _], x6x, x6x, (HE.box rfl (by rw [← hlow]; (rw [hM, a2d hv hkn hL] <;> rfl)) (HE.row rfl (by (rw [hM, a2d hv hkn hL] <;> rfl)) (HE.row rfl (by (rw [hM, a2d hv hkn hL] <;> rfl)) (HE.row rfl (by (rw [hM, a2d hv hkn hL] <;> rfl)) (HE.kill rfl (HE.kill rfl HE.nil)))))), x5x, rfl⟩
   have hL : b9l v inc ver := .inr ⟨by omega, by omega⟩
   refine dv 6 ?_
   refine x0x rfl rfl rfl (b3l c v.events es n.g) (dc 7 (fun K K' => aS ?_ ?_))<;>intro h<;>try simp at h
   ·have hlow : n.low = M.low := by rw [hM, a0c hv hkn hL]; show _ = chg n.g v.events (chg n.g es n.low v.events) es; rw [c2u n.g v.events es (m := n.low) (by have := fS.1.2.2.2.2.2.2; omega)]; omega
    refine dv 7 ?_
    refine y1y (id := 4) u3u rfl z2z rfl (dv 1 ?_)
    refine a2c v3v (zs := es.map y9y) rfl rfl u3u rfl z2z rfl rfl rfl (z9z (fun _ => rfl) _) rfl (by simp only [a0e, T56]; omega) (Le.ow_map _ (fun _ => rfl) (fun _ => rfl)) ?_
    refine rlB r1r a4s ?_
    refine z0z (j := k) rfl rfl a9y rfl r1r rfl rfl (y7y hv) ?_
    refine v6v (el' := ⟨inc, ver, es⟩) rfl rfl r1r rfl rfl rfl hv rfl (s4s rfl) rfl rfl ?_
    refine dv 0 ?_
    exact ⟨(), trivial, [0, 0, 0, 0, _, _], x6x, x6x, (HE.box rfl (by rw [← hlow]; (rw [hM, a0c hv hkn hL] <;> rfl)) (HE.row rfl (by (rw [hM, a0c hv hkn hL] <;> rfl)) (HE.row rfl (by (rw [hM, a0c hv hkn hL] <;> rfl)) (HE.row rfl (by (rw [hM, a0c hv hkn hL] <;> rfl)) (HE.kill rfl (HE.kill rfl HE.nil)))))), x5x, rfl⟩
   have hlow : chg n.g v.events (chg n.g es 41 v.events) es = M.low := by rw [hM, a0c hv hkn hL]; show _ = chg n.g v.events (chg n.g es n.low v.events) es; rw [c2u n.g v.events es (m := n.low) (by have := fS.1.2.2.2.2.2.2; omega)]; omega
   refine dv 10 ?_
   refine y1y (id := 4) u3u rfl z2z rfl (dv 1 ?_)
   refine a2c v3v (zs := es.map y9y) rfl rfl u3u rfl z2z rfl rfl rfl (z9z (fun _ => rfl) _) rfl (by simp only [a0e, T56]; omega) (Le.ow_map _ (fun _ => rfl) (fun _ => rfl)) ?_
   refine rlB r1r a4s ?_
   refine z0z (j := k) rfl rfl a9y rfl r1r rfl rfl (y7y hv) ?_
   refine v6v (el' := ⟨inc, ver, es⟩) rfl rfl r1r rfl rfl rfl hv rfl (s4s rfl) rfl rfl ?_
   refine dv 0 ?_
   exact ⟨(), trivial, [0, 0, 0, 0, _, _], x6x, x6x, (HE.box rfl (by rw [← hlow]; (rw [hM, a0c hv hkn hL] <;> rfl)) (HE.row rfl (by (rw [hM, a0c hv hkn hL] <;> rfl)) (HE.row rfl (by (rw [hM, a0c hv hkn hL] <;> rfl)) (HE.row rfl (by (rw [hM, a0c hv hkn hL] <;> rfl)) (HE.kill rfl (HE.kill rfl HE.nil)))))), x5x, rfl⟩
  ·try dsimp only [b1e, b1f]
   obtain ⟨w1, w2, w3⟩ := d0b n k inc ver g es
   rw [← hM] at w1 w2 w3
   have hwM : wk M := by rw [hM]; exact d7m (d2u fS) hes
   have hpcM : M.lanes.length = (q2q M.id 4).length := by rw [w1, w3]; exact fS.2.2.2.2.1
   have hwA : wk (nl M (v7v M M.lanes)) := c2t _ (Nat.le_refl _) hwM
   have hLA : (v7v M M.lanes).length ≤ 4 := hwA.1
   refine dv 3 ?_
   refine rlM [6, 7, 8] [_, _, _] (b5g M hwM) rfl rfl rfl ?_
   refine rlM [6, 7, 8] [_, _, _] (b3m c n (nl M (v7v M M.lanes)) (d2u fS) hwA w1.symm ⟨by omega, by omega⟩) rfl rfl rfl ?_
   refine dv 2 fun K K' => ?_
   refine v9v (b := c0e true (a9n n M).lanes) 2 4 rfl rfl rfl (.ref rfl (Le.ow_map _ (fun _ => rfl) (fun _ => rfl)) .nil) rfl rfl rfl rfl ?_
   refine v9v (b := c1z true (a9n n M).views) 2 9 rfl rfl rfl (.ref rfl (Le.ow_map _ (fun _ => rfl) (fun _ => rfl)) .nil) rfl rfl rfl rfl ?_
   refine v9v (b := a4p true (a9n n M).known) 2 10 rfl rfl rfl (.ref rfl (Le.ow_map _ (fun _ => rfl) (fun _ => rfl)) .nil) rfl rfl rfl rfl ?_
   refine dv 2 ?_
   refine x0x rfl rfl rfl (p2p true (a9n n M)) ?_
   refine dc 1 (aI ?_ ?_)<;>intro hc31<;>try simp at hc31
   ·have fX2 : ¬ y3y (a9n n M) := a1h (by simpa using hc31)
    refine dv 2 ?_
    refine rlM [9, 10, 11] [_, _, _] (y5y c n fb) rfl rfl rfl ?_
    refine dv 2 ?_
    (rw [d7l fK fH, ← hM, b4s fX2]; exact ⟨_, _, rfl, b7o (n := n) rfl rfl rfl⟩)
   have fK2 : y3y (a9n n M) := a1d.1 (by simpa using hc31)
   have fb2 := c0x fK2.1
   refine dv 3 ?_
   refine rlM [9, 10, 11] [_, _, _] (y5y true (a9n n M) fb2) rfl rfl rfl ?_
   refine dv 2 ?_
   (rw [d7l fK fH, ← hM, b4r fK2]; exact ⟨_, _, rfl, b7o (n := a9n n M) rfl rfl rfl⟩)
end
section
theorem a9t (c : Bool) (n : Nd) (w : Wo) : a0t Tryz.prog 74 [.agg (u1u c n), .agg (w1w c w)] (.tup [.agg (u1u true (p5p n w).1), w7w true (p5p n w).2]) := by
 refine pX Tryz.f74 [.agg (u1u true (p5p n w).1), w7w true (p5p n w).2] 12 ?_
 refine dv 1 ?_
 refine y0y (id := 0) rfl rfl rfl (y0y (id := 1) rfl rfl rfl (x3x (id := 2) u9u q1q rfl (dv 2 ?_)))
 refine y1y (id := 3) r8r rfl p0p rfl (dv 4 fun K K' => ?_)
 refine x0x rfl rfl rfl (p2p ..) (dc 1 (aI ?_ ?_))<;>intro hc2<;>try simp at hc2
 ·have fX : ¬ y3y n := a1h (by simpa using hc2)
  refine dv 1 ?_
  refine rlB u9u q1q ?_
  refine dv 4 ?_
  (rw [f5z fX]; exact ⟨_, _, rfl, b7p (a2u (l := ([] : List Wo)) rfl .nil)⟩)
 have fK : y3y n := a1d.1 (by simpa using hc2)
 have fS := fK.1
 have fb := c0x fS
 refine dc 7 (fun K K' => aS ?_ ?_)<;>intro hg4<;>try simp at hg4
 ·have fU : ¬ b2a n w := fun h => by have := h.1; simp_all
  refine dv 18 ?_
  try have fU : ¬ b2a n w := fun h => by have := h.2.2.1; have := h.2.2.2; omega
  refine dv 2 ?_
  refine rlM [9, 10, 11] [_, _, _] (y5y c n fb) rfl rfl rfl ?_
  refine dv 4 ?_
  (rw [d7r fK fU]; exact ⟨_, _, rfl, r6r rfl rfl rfl (a2u (l := ([] : List Wo)) rfl .nil)⟩)
 have fUp : n.up = true := hg4
 refine dv 1 ?_
 refine x0x rfl rfl rfl (b3a ..) (dc 3 (aS ?_ ?_))<;>intro hg5<;>try simp at hg5
 ·try have fU : ¬ b2a n w := fun h => absurd h.2.1 hg5
  refine dv 13 ?_
  try have fU : ¬ b2a n w := fun h => by have := h.2.2.1; have := h.2.2.2; omega
  refine dv 2 ?_
  refine rlM [9, 10, 11] [_, _, _] (y5y c n fb) rfl rfl rfl ?_
  refine dv 4 ?_
  (rw [d7r fK fU]; exact ⟨_, _, rfl, r6r rfl rfl rfl (a2u (l := ([] : List Wo)) rfl .nil)⟩)
 have fW : a4m w := hg5
 refine dc 7 (aS ?_ ?_)<;>intro j<;>try simp at j
 ·try have fU : ¬ b2a n w := fun h => by have := h.2.2.1; omega
  refine dv 6 ?_
  try have fU : ¬ b2a n w := fun h => by have := h.2.2.1; have := h.2.2.2; omega
  refine dv 2 ?_
  refine rlM [9, 10, 11] [_, _, _] (y5y c n fb) rfl rfl rfl ?_
  refine dv 4 ?_
  (rw [d7r fK fU]; exact ⟨_, _, rfl, r6r rfl rfl rfl (a2u (l := ([] : List Wo)) rfl .nil)⟩)
 refine dc 6 (aI ?_ ?_)<;>intro j<;>try simp at j
 ·try have fU : ¬ b2a n w := fun h => by have := h.2.2.1; have := h.2.2.2; omega
  refine dv 2 ?_
  refine rlM [9, 10, 11] [_, _, _] (y5y c n fb) rfl rfl rfl ?_
  refine dv 4 ?_
  (rw [d7r fK fU]; exact ⟨_, _, rfl, r6r rfl rfl rfl (a2u (l := ([] : List Wo)) rfl .nil)⟩)
 have fM : b2a n w := ⟨fUp, fW, by omega, by omega⟩
 refine dc 9 (fun K K' => aI ?_ ?_)<;>intro hc9<;>try simp at hc9
 ·have k1 : w.kind = 1 := hc9
  refine dv 12 ?_
  refine x0x rfl rfl rfl (b5h c n w.from' w.inc w.version w.g w.events) ?_
  refine dv 4 ?_
  (rw [b9n fK fM, f3b k1]; exact ⟨_, _, rfl, d3o (a2u (l := ([] : List Wo)) rfl .nil)⟩)
 have n1 : ¬ w.kind = 1 := hc9
 refine dc 3 (aI ?_ ?_)<;>intro hc10<;>try simp at hc10
 ·have k2 : w.kind = 2 := hc10
  refine dv 4 ?_
  refine x0x rfl rfl rfl (b2e ..) (dv 4 ?_)
  refine x3x (id := 4) u9u q1q rfl (x3x (id := 5) p0p b1l rfl (dc 5 (aI ?_ ?_)))<;>intro hc11<;>try simp at hc11
  ·have hr : (v5v n w.round).2.2 = true := hc11
   refine dv 3 ?_
   refine y2y (id := 6) r8r rfl p0p rfl rfl rfl rfl rfl rfl (dv 3 ?_)
   (rw [b9n fK fM, e8j k2 hr]; exact ⟨_, _, rfl, d3o (a2u (l := [(v5v n w.round).2.1]) rfl .nil)⟩)
  have hr : ¬ (v5v n w.round).2.2 = true := by simpa using hc11
  have hE : p5p n w = (n, []) := by rw [b9n fK fM, e8k k2 hr]
  refine dv 3 ?_
  refine rlM [9, 10, 11] [_, _, _] (y5y c n fb) rfl rfl rfl ?_
  refine dv 4 ?_
  (rw [hE]; exact ⟨_, _, rfl, r6r rfl rfl rfl (a2u (l := ([] : List Wo)) rfl .nil)⟩)
 have n2 : ¬ w.kind = 2 := hc10
 refine dc 3 (aS ?_ ?_)<;>intro hc12<;>try simp at hc12
 ·have n4 : ¬ w.kind = 4 := hc12
  refine dc 3 (aS ?_ ?_)<;>intro hc16<;>try simp at hc16
  ·have n6 : ¬ w.kind = 6 := hc16
   have hE : p5p n w = (n, []) := by rw [b9n fK fM, f3c n1 n2 n4 n6]
   refine dv 3 ?_
   refine rlM [9, 10, 11] [_, _, _] (y5y c n fb) rfl rfl rfl ?_
   refine dv 4 ?_
   (rw [hE]; exact ⟨_, _, rfl, r6r rfl rfl rfl (a2u (l := ([] : List Wo)) rfl .nil)⟩)
  have k6 : w.kind = 6 := hc16
  refine dc 6 (aS ?_ ?_)<;>intro hc17<;>try simp at hc17
  ·have h6 : ¬ w.inc = n.inc := hc17
   have hE : p5p n w = (n, []) := by rw [b9n fK fM, e8n k6 h6]
   refine dv 3 ?_
   refine rlM [9, 10, 11] [_, _, _] (y5y c n fb) rfl rfl rfl ?_
   refine dv 4 ?_
   (rw [hE]; exact ⟨_, _, rfl, r6r rfl rfl rfl (a2u (l := ([] : List Wo)) rfl .nil)⟩)
  have h6 : w.inc = n.inc := hc17
  refine dv 6 ?_
  refine x0x rfl rfl rfl (b2f ..) (dv 3 ?_)
  refine x3x (id := 8) u9u q1q rfl (dv 8 ?_)
  (rw [b9n fK fM, e8m k6 h6]; exact ⟨_, _, rfl, d3o (a2u (l := ([] : List Wo)) rfl .nil)⟩)
 have k4 : w.kind = 4 := hc12
 refine dc 7 (aS ?_ ?_)<;>intro j<;>try simp at j
 ·refine dv 4 ?_
  have h4 : ¬ (w.round = n.round ∧ 0 < w.round) := by omega
  have hE : p5p n w = (n, []) := by rw [b9n fK fM, d7s k4 h4]
  refine dv 3 ?_
  refine rlM [9, 10, 11] [_, _, _] (y5y c n fb) rfl rfl rfl ?_
  refine dv 4 ?_
  (rw [hE]; exact ⟨_, _, rfl, r6r rfl rfl rfl (a2u (l := ([] : List Wo)) rfl .nil)⟩)
 refine dc 4 (aS ?_ ?_)<;>intro j<;>try simp at j
 ·have h4 : ¬ (w.round = n.round ∧ 0 < w.round) := by omega
  have hE : p5p n w = (n, []) := by rw [b9n fK fM, d7s k4 h4]
  refine dv 3 ?_
  refine rlM [9, 10, 11] [_, _, _] (y5y c n fb) rfl rfl rfl ?_
  refine dv 4 ?_
  (rw [hE]; exact ⟨_, _, rfl, r6r rfl rfl rfl (a2u (l := ([] : List Wo)) rfl .nil)⟩)
 have h4 : w.round = n.round ∧ 0 < w.round := by omega
 refine dv 2 ?_
 refine rlM [9, 10, 11] [_, _, _] (y5y c n fb) rfl rfl rfl ?_
 refine dv 8 ?_
 refine rlB p0p b1l ?_
 refine y2y (id := 7) r8r rfl p0p rfl rfl rfl rfl rfl rfl (dv 3 ?_)
 (rw [b9n fK fM, e8l k4 h4]; exact ⟨_, _, rfl, r6r rfl rfl rfl (f8i (k := 5) (f := n.id) (t := 0) (i := n.inc) (v := n.version) (r := n.round) (g := 0) rfl .nil)⟩)
theorem c5r (c : Bool) (h : Hb) (n : Nd) : a0t Tryz.prog 311 [.agg (a8o true h), .agg (u1u c n)] (.tup [.agg (a8o true (q5q h n).1), .agg (u1u true (q5q h n).2.1), w7w true (q5q h n).2.2]) := by
 refine pX Tryz.f311 [.agg (a8o true (q5q h n).1), .agg (u1u true (q5q h n).2.1), w7w true (q5q h n).2.2] 17 ?_
 refine dv 1 ?_
 refine y0y (id := 0) rfl rfl rfl (y0y (id := 1) rfl rfl rfl (x3x (id := 2) a7i b7d rfl (x3x (id := 3) u9u q1q rfl (dv 2 ?_))))
 refine y1y (id := 4) r8r rfl p0p rfl (dv 4 fun K K' => ?_)
 refine x0x rfl rfl rfl (b0k ..) (dc 2 (aS ?_ ?_))<;>intro hg2<;>try simp at hg2
 ·have fX : ¬ (a0z h ∧ y3y n) := fun q => a1h (by simpa using hg2) q.1
  refine dv 5 ?_
  refine rlB a7i b7d ?_
  refine rlB u9u q1q ?_
  refine dv 5 ?_
  (rw [e4s fX]; exact ⟨_, _, rfl, d8f (b7p (a2u (l := ([] : List Wo)) rfl .nil))⟩)
 have fH : a0z h := a1d.1 (by simpa using hg2)
 refine dv 1 ?_
 refine x0x rfl rfl rfl (p2p ..) (dc 2 (aI ?_ ?_))<;>intro hc3<;>try simp at hc3
 ·try have fX : ¬ (a0z h ∧ y3y n) := fun q => a1h (by simpa using hc3) q.2
  refine dv 1 ?_
  refine rlB a7i b7d ?_
  refine rlB u9u q1q ?_
  refine dv 5 ?_
  (rw [e4s fX]; exact ⟨_, _, rfl, d8f (b7p (a2u (l := ([] : List Wo)) rfl .nil))⟩)
 have fK : y3y n := a1d.1 (by simpa using hc3)
 have fS := fK.1
 have fb := c0x fS
 refine dv 3 ?_
 refine rlM [11, 12, 13] [_, _, _] (y5y c n fb) rfl rfl rfl ?_
 refine x3x (id := 5) u9u q1q rfl (dv 4 ?_)
 refine s5s (.int .i64 (n.led + 1)) rfl rfl rfl (a6s rfl rfl (by have := fS.1.2.2.2.1; omega) (by have := fS.1.2.2.2.1; omega)) ?_
 refine dc 8 (fun K K' => aS ?_ ?_)<;>intro hg5<;>try simp at hg5
 ·have fU : ¬ a5j n := fun q => by have := q.1; omega
  refine dv 10 ?_
  try have fU : ¬ a5j n := fun q => by have := q.2.2.1; omega
  refine dv 2 ?_
  refine x0x rfl rfl rfl (a3m true h fH) (dv 1 ?_)
  refine rlM [14, 15, 16] [_, _, _] (y5y c n fb) rfl rfl rfl ?_
  refine dv 5 ?_
  (rw [c5f ⟨fH, fK⟩ fU]; exact ⟨_, _, rfl, a9p (r6r rfl rfl rfl (a2u (l := ([] : List Wo)) rfl .nil))⟩)
 have hid : n.id = 0 := hg5
 refine dc 5 (aS ?_ ?_)<;>intro hg6<;>try simp at hg6
 ·try have fU : ¬ a5j n := fun h => by have := h.2.1; simp_all
  refine dv 5 ?_
  try have fU : ¬ a5j n := fun q => by have := q.2.2.1; omega
  refine dv 2 ?_
  refine x0x rfl rfl rfl (a3m true h fH) (dv 1 ?_)
  refine rlM [14, 15, 16] [_, _, _] (y5y c n fb) rfl rfl rfl ?_
  refine dv 5 ?_
  (rw [c5f ⟨fH, fK⟩ fU]; exact ⟨_, _, rfl, a9p (r6r rfl rfl rfl (a2u (l := ([] : List Wo)) rfl .nil))⟩)
 have fUp : n.up = true := hg6
 refine dv 2 ?_
 refine x0x rfl rfl rfl (u6u ..) (dc 2 (aI ?_ ?_))<;>intro j<;>try simp at j
 ·try have fU : ¬ a5j n := fun q => by have := q.2.2.1; omega
  refine dv 2 ?_
  refine x0x rfl rfl rfl (a3m true h fH) (dv 1 ?_)
  refine rlM [14, 15, 16] [_, _, _] (y5y c n fb) rfl rfl rfl ?_
  refine dv 5 ?_
  (rw [c5f ⟨fH, fK⟩ fU]; exact ⟨_, _, rfl, a9p (r6r rfl rfl rfl (a2u (l := ([] : List Wo)) rfl .nil))⟩)
 have hld : n.led < 9999 := by omega
 refine dv 5 ?_
 refine b7h rfl rfl rfl (c4z (n := d3e n) rfl rfl rfl (.cl rfl .nil)) (b2e false (d3e n) (n.led + 1)) (.tup (a3z (e8f _) (a3z (e8g _) (a3z (.pv _) f2w)))) ?_
 refine dv 4 ?_
 refine x3x (id := 6) u9u q1q rfl (x3x (id := 7) p0p b1l rfl (dc 7 (fun K K' => aI ?_ ?_)))<;>intro hc9<;>try simp at hc9
 ·have fU : ¬ a5j n := fun q => by have hb := (d3l fK hld).2 ⟨q.2.1, q.2.2.2⟩; have hx := hc9; simp only [d3e] at hb hx; simp_all
  refine dv 2 ?_
  refine x0x rfl rfl rfl (a3m true h fH) (dv 1 ?_)
  refine rlM [14, 15, 16] [_, _, _] (y5y c n fb) rfl rfl rfl ?_
  refine dv 5 ?_
  (rw [c5f ⟨fH, fK⟩ fU]; exact ⟨_, _, rfl, a9p (r6r rfl rfl rfl (a2u (l := ([] : List Wo)) rfl .nil))⟩)
 have hrb := (d3l fK hld).1 (by have hx := hc9; simp only [d3e] at hx ⊢; exact hx)
 have fM : a5j n := ⟨hid, fUp, hld, hrb.2⟩
 have hEq := e8v (h := h) ⟨fH, fK⟩ fM
 refine dv 3 ?_
 refine x0x rfl rfl rfl (a3m true h fH) (x3x (id := 8) a7i b7d rfl (dv 8 ?_))
 refine y2y (id := 9) r8r rfl p0p rfl rfl rfl rfl rfl rfl (dv 3 ?_)
 refine y1y (id := 10) r8r rfl p0p rfl (dv 7 ?_)
 refine rlB p0p b1l ?_
 refine x0x rfl rfl rfl (b9q 2 0 0 0 0 (n.led + 1) 0) ?_
 refine dv 4 ?_
 (rw [show v5v (d3e n) (n.led + 1) = _ from hEq]; rw [d5k ⟨fH, fK⟩ fM]; exact ⟨_, _, rfl, f6q (a := [e3h (d3e n) (n.led + 1)]) (c := ([] : List Wo)) rfl rfl (d3o (.cl rfl .nil))⟩)
end
section
theorem b0x (c : Bool) (h : Hb) (n : Nd) (w : Wo) : a0t Tryz.prog 322 [.agg (a8o true h), .agg (u1u c n), .agg (w1w c w)] (.tup [.agg (a8o true (w3w h n w).1), .agg (u1u true (w3w h n w).2.1), w7w true (w3w h n w).2.2]) := by
 refine pX Tryz.f322 [.agg (a8o true (w3w h n w).1), .agg (u1u true (w3w h n w).2.1), w7w true (w3w h n w).2.2] 14 ?_
 refine dv 1 ?_
 refine y0y (id := 0) rfl rfl rfl (y0y (id := 1) rfl rfl rfl (y0y (id := 2) rfl rfl rfl (x3x (id := 3) a7i b7d rfl (x3x (id := 4) u9u q1q rfl (dv 2 ?_)))))
 refine y1y (id := 5) r8r rfl p0p rfl (dv 4 fun K K' => ?_)
 refine x0x rfl rfl rfl (b0k ..) (dc 2 (aS ?_ ?_))<;>intro hg2<;>try simp at hg2
 ·have fX : ¬ (a0z h ∧ y3y n) := fun q => a1h (by simpa using hg2) q.1
  refine dv 5 ?_
  refine rlB a7i b7d ?_
  refine rlB u9u q1q ?_
  refine dv 5 ?_
  (rw [f6d fX]; exact ⟨_, _, rfl, d8f (b7p (a2u (l := ([] : List Wo)) rfl .nil))⟩)
 have fH : a0z h := a1d.1 (by simpa using hg2)
 refine dv 1 ?_
 refine x0x rfl rfl rfl (p2p ..) (dc 2 (aI ?_ ?_))<;>intro hc3<;>try simp at hc3
 ·try have fX : ¬ (a0z h ∧ y3y n) := fun q => a1h (by simpa using hc3) q.2
  refine dv 1 ?_
  refine rlB a7i b7d ?_
  refine rlB u9u q1q ?_
  refine dv 5 ?_
  (rw [f6d fX]; exact ⟨_, _, rfl, d8f (b7p (a2u (l := ([] : List Wo)) rfl .nil))⟩)
 have fK : y3y n := a1d.1 (by simpa using hc3)
 have fS := fK.1
 have fb := c0x fS
 refine dv 3 ?_
 refine x0x rfl rfl rfl (a3m true h fH) (x3x (id := 6) a7i b7d rfl (dv 3 ?_))
 refine rlM [10, 11, 12] [_, _, _] (y5y c n fb) rfl rfl rfl ?_
 refine x3x (id := 7) u9u q1q rfl (dc 7 (fun K K' => aS ?_ ?_))<;>intro hg5<;>try simp at hg5
 ·have fU : ¬ a1q n w := fun q => by have := q.1; omega
  refine dv 19 ?_
  try have fU : ¬ a1q n w := fun q => by have := q.2.2.2.2; omega
  refine dv 8 ?_
  (rw [e5j ⟨fH, fK⟩ fU]; exact ⟨_, _, rfl, a9p (r6r rfl rfl rfl (a2u (l := ([] : List Wo)) rfl .nil))⟩)
 try have hid : n.id = 0 := hg5
 refine dc 5 (aS ?_ ?_)<;>intro hg6<;>try simp at hg6
 ·try have fU : ¬ a1q n w := fun q => by have := q.2.1; simp_all
  refine dv 14 ?_
  try have fU : ¬ a1q n w := fun q => by have := q.2.2.2.2; omega
  refine dv 8 ?_
  (rw [e5j ⟨fH, fK⟩ fU]; exact ⟨_, _, rfl, a9p (r6r rfl rfl rfl (a2u (l := ([] : List Wo)) rfl .nil))⟩)
 have fUp : n.up = true := hg6
 refine dv 1 ?_
 refine x0x rfl rfl rfl (b3a ..) (dc 3 (aS ?_ ?_))<;>intro hg7<;>try simp at hg7
 ·try have fU : ¬ a1q n w := fun q => absurd q.2.2.1 hg7
  refine dv 9 ?_
  try have fU : ¬ a1q n w := fun q => by have := q.2.2.2.2; omega
  refine dv 8 ?_
  (rw [e5j ⟨fH, fK⟩ fU]; exact ⟨_, _, rfl, a9p (r6r rfl rfl rfl (a2u (l := ([] : List Wo)) rfl .nil))⟩)
 have fW : a4m w := hg7
 refine dc 5 (aS ?_ ?_)<;>intro hg8<;>try simp at hg8
 ·try have fU : ¬ a1q n w := fun q => by have := q.2.2.2.1; omega
  refine dv 4 ?_
  try have fU : ¬ a1q n w := fun q => by have := q.2.2.2.2; omega
  refine dv 8 ?_
  (rw [e5j ⟨fH, fK⟩ fU]; exact ⟨_, _, rfl, a9p (r6r rfl rfl rfl (a2u (l := ([] : List Wo)) rfl .nil))⟩)
 try have hto : w.to = 0 := hg8
 refine dc 4 (aI ?_ ?_)<;>intro o<;>try simp at o
 ·try have fU : ¬ a1q n w := fun q => by have := q.2.2.2.2; omega
  refine dv 8 ?_
  (rw [e5j ⟨fH, fK⟩ fU]; exact ⟨_, _, rfl, a9p (r6r rfl rfl rfl (a2u (l := ([] : List Wo)) rfl .nil))⟩)
 have fM : a1q n w := ⟨hid, fUp, fW, hto, by omega⟩
 refine dc 9 (fun K K' => aI ?_ ?_)<;>intro hc11<;>try simp at hc11
 ·try have k7 : w.kind = 7 := hc11
  refine dv 5 ?_
  refine x0x rfl rfl rfl (d0p h.outs w.from') ?_
  refine dv 3 ?_
  refine x3x (id := 8) p0p b1l rfl (dc 6 (aS ?_ ?_))<;>intro hg12<;>try simp at hg12
  ·have hnone : (b7t w.from' h.outs).isSome = false := by simpa using hg12
   refine dv 6 ?_
   have hl : a4b h w = true := e8w hnone
   have hE : w3w h n w = ({ h with outs := a7o w true h.outs false }, n, []) := by rw [b7v ⟨fH, fK⟩ fM, f0l k7 hl]
   refine dv 4 ?_
   refine x0x rfl rfl rfl (a4z c w (d3c fW)) ?_
   refine x0x rfl rfl rfl (a8r h.outs w true (by have := b7s fH.2.2.2.1; omega)) ?_
   refine dv 10 ?_
   (rw [hE]; exact ⟨_, _, rfl, a9p (u := { h with outs := a7o w true h.outs false }) (r6r rfl rfl rfl (a2u (l := ([] : List Wo)) rfl .nil))⟩)
  have hsome : (b7t w.from' h.outs).isSome = true := hg12
  refine dc 6 (aS ?_ ?_)<;>intro o<;>try simp at o
  ·have hl : ¬ a4b h w = true := fun q => by have := (d3m hsome).1 q; omega
   have hE : w3w h n w = (h, n, []) := by rw [b7v ⟨fH, fK⟩ fM, f6e k7 hl]
   refine dv 9 ?_
   (rw [hE]; exact ⟨_, _, rfl, a9p (u := h) (r6r rfl rfl rfl (a2u (l := ([] : List Wo)) rfl .nil))⟩)
  have hl : a4b h w = true := (d3m hsome).2 (by omega)
  have hE : w3w h n w = ({ h with outs := a7o w true h.outs false }, n, []) := by rw [b7v ⟨fH, fK⟩ fM, f0l k7 hl]
  refine dv 4 ?_
  refine x0x rfl rfl rfl (a4z c w (d3c fW)) ?_
  refine x0x rfl rfl rfl (a8r h.outs w true (by have := b7s fH.2.2.2.1; omega)) ?_
  refine dv 10 ?_
  (rw [hE]; exact ⟨_, _, rfl, a9p (u := { h with outs := a7o w true h.outs false }) (r6r rfl rfl rfl (a2u (l := ([] : List Wo)) rfl .nil))⟩)
 try have n7 : ¬ w.kind = 7 := hc11
 refine dc 3 (aI ?_ ?_)<;>intro hc15<;>try simp at hc15
 ·try have k3 : w.kind = 3 := hc15
  refine dc 8 (fun K K' => aS ?_ ?_)<;>intro hg17<;>try simp at hg17
  ·try have hr : ¬ w.round = h.round := hg17
   refine dv 17 ?_
   have hm : ¬ d9v h w := fun q => by obtain ⟨q1, q2, q3, q4⟩ := q; omega
   have hE : w3w h n w = (h, n, []) := by rw [b7v ⟨fH, fK⟩ fM, d8c k3 hm]
   refine dv 8 ?_
   (rw [hE]; exact ⟨_, _, rfl, a9p (u := h) (r6r rfl rfl rfl (a2u (l := ([] : List Wo)) rfl .nil))⟩)
  try have hr : w.round = h.round := hg17
  refine dc 6 (aS ?_ ?_)<;>intro hg18<;>try simp at hg18
  ·try have hz : w.incs.length = 0 := by (rw [hg18]; rfl)
   refine dv 11 ?_
   have hm : ¬ d9v h w := fun q => by obtain ⟨q1, q2, q3, q4⟩ := q; omega
   have hE : w3w h n w = (h, n, []) := by rw [b7v ⟨fH, fK⟩ fM, d8c k3 hm]
   refine dv 8 ?_
   (rw [hE]; exact ⟨_, _, rfl, a9p (u := h) (r6r rfl rfl rfl (a2u (l := ([] : List Wo)) rfl .nil))⟩)
  have hi1 : ¬ w.incs.length = 0 := by (intro q; exact hg18 (List.length_eq_zero_iff.1 q))
  refine dc 6 (aS ?_ ?_)<;>intro hg19<;>try simp at hg19
  ·try have hz2 : w.versions.length = 0 := by (rw [hg19]; rfl)
   refine dv 5 ?_
   have hm : ¬ d9v h w := fun q => by obtain ⟨q1, q2, q3, q4⟩ := q; omega
   have hE : w3w h n w = (h, n, []) := by rw [b7v ⟨fH, fK⟩ fM, d8c k3 hm]
   refine dv 8 ?_
   (rw [hE]; exact ⟨_, _, rfl, a9p (u := h) (r6r rfl rfl rfl (a2u (l := ([] : List Wo)) rfl .nil))⟩)
  have hv1 : ¬ w.versions.length = 0 := by (intro q; exact hg19 (List.length_eq_zero_iff.1 q))
  refine dc 5 (aI ?_ ?_)<;>intro o<;>try simp at o
  ·have hm : ¬ d9v h w := fun q => by obtain ⟨q1, q2, q3, q4⟩ := q; omega
   have hE : w3w h n w = (h, n, []) := by rw [b7v ⟨fH, fK⟩ fM, d8c k3 hm]
   refine dv 8 ?_
   (rw [hE]; exact ⟨_, _, rfl, a9p (u := h) (r6r rfl rfl rfl (a2u (l := ([] : List Wo)) rfl .nil))⟩)
  have hm : d9v h w := ⟨hr, hi1, hv1, by omega⟩
  refine dv 5 ?_
  refine x0x rfl rfl rfl (a4z c w (d3c fW)) ?_
  refine x0x rfl rfl rfl (a8r h.ones w false (by have := b7s fH.2.1; omega)) ?_
  refine dc 7 (aS ?_ ?_)<;>intro o<;>try simp at o
  ·have h3 : ¬ (d7u h w).ones.length = 3 := by show ¬ (a7o w false h.ones false).length = 3; omega
   have hE : w3w h n w = (d7u h w, n, []) := by rw [b7v ⟨fH, fK⟩ fM, f6h k3 hm h3]
   refine dv 9 ?_
   (rw [hE]; exact ⟨_, _, rfl, a9p (u := d7u h w) (r6r rfl rfl rfl (a2u (l := ([] : List Wo)) rfl .nil))⟩)
  have h3 : (d7u h w).ones.length = 3 := by show (a7o w false h.ones false).length = 3; omega
  have hE : w3w h n w = ({ d7u h w with twos := [f7d h n] }, n, e6j (f3d h.round)) := by rw [b7v ⟨fH, fK⟩ fM, f6g k3 hm h3]
  refine dv 7 ?_
  refine rlB p0p b1l ?_
  refine y2y (id := 9) r8r rfl p0p rfl rfl rfl rfl rfl rfl (dv 7 ?_)
  refine rlB p0p b1l ?_
  refine x0x rfl rfl rfl (b9q 4 0 0 0 0 h.round 0) (dv 4 ?_)
  (rw [hE]; exact ⟨_, _, rfl, f6p (R := h.round) (a := (d7u h w).ones) (b := h.outs) (k := 5) (f := 0) (t := 0) (i := n.inc) (v := n.version) (r := h.round) (g := 0) rfl (r6r rfl rfl rfl (.cl rfl .nil))⟩)
 try have n3 : ¬ w.kind = 3 := hc15
 refine dc 3 (aS ?_ ?_)<;>intro hc25<;>try simp at hc25
 ·try have n5 : ¬ w.kind = 5 := hc25
  have hE : w3w h n w = (h, n, []) := by rw [b7v ⟨fH, fK⟩ fM, f8e n7 n3 n5]
  refine dv 9 ?_
  (rw [hE]; exact ⟨_, _, rfl, a9p (u := h) (r6r rfl rfl rfl (a2u (l := ([] : List Wo)) rfl .nil))⟩)
 try have k5 : w.kind = 5 := hc25
 refine dc 8 (fun K K' => aS ?_ ?_)<;>intro hg27<;>try simp at hg27
 ·try have hr : ¬ w.round = h.round := hg27
  refine dv 11 ?_
  have hm : ¬ e6k h w := fun q => by obtain ⟨q1, q2, q3⟩ := q; omega
  have hE : w3w h n w = (h, n, []) := by rw [b7v ⟨fH, fK⟩ fM, e5k k5 hm]
  refine dv 8 ?_
  (rw [hE]; exact ⟨_, _, rfl, a9p (u := h) (r6r rfl rfl rfl (a2u (l := ([] : List Wo)) rfl .nil))⟩)
 try have hr : w.round = h.round := hg27
 refine dc 6 (aS ?_ ?_)<;>intro o<;>try simp at o
 ·refine dv 5 ?_
  have hm : ¬ e6k h w := fun q => by obtain ⟨q1, q2, q3⟩ := q; omega
  have hE : w3w h n w = (h, n, []) := by rw [b7v ⟨fH, fK⟩ fM, e5k k5 hm]
  refine dv 8 ?_
  (rw [hE]; exact ⟨_, _, rfl, a9p (u := h) (r6r rfl rfl rfl (a2u (l := ([] : List Wo)) rfl .nil))⟩)
 refine dc 5 (aI ?_ ?_)<;>intro o<;>try simp at o
 ·have hm : ¬ e6k h w := fun q => by obtain ⟨q1, q2, q3⟩ := q; omega
  have hE : w3w h n w = (h, n, []) := by rw [b7v ⟨fH, fK⟩ fM, e5k k5 hm]
  refine dv 8 ?_
  (rw [hE]; exact ⟨_, _, rfl, a9p (u := h) (r6r rfl rfl rfl (a2u (l := ([] : List Wo)) rfl .nil))⟩)
 have hm : e6k h w := ⟨hr, by omega, by omega⟩
 refine dv 5 ?_
 refine x0x rfl rfl rfl (a4z c w (d3c fW)) ?_
 refine x0x rfl rfl rfl (a8r h.twos w false (by have := b7s fH.2.2.1; omega)) ?_
 refine dv 4 ?_
 refine x0x rfl rfl rfl (c5q true (b2d h w)) ?_
 refine dc 7 (aS ?_ ?_)<;>intro hc30<;>try simp at hc30
 ·have hj : ¬ (r4r (b2d h w)).2 = true := by simpa using hc30
  have hE : w3w h n w = ((b2d h w), n, []) := by rw [b7v ⟨fH, fK⟩ fM, f6j k5 hm hj]
  refine dv 9 ?_
  (rw [hE]; exact ⟨_, _, rfl, a9p (u := b2d h w) (r6r rfl rfl rfl (a2u (l := ([] : List Wo)) rfl .nil))⟩)
 have hj : (r4r (b2d h w)).2 = true := hc30
 have hjo := e5i hj
 have hE : w3w h n w = ((b2d h w), (s2s n h.round (r4r (b2d h w)).1).1, b6m (b2d h w) (r4r (b2d h w)).1 2) := by rw [b7v ⟨fH, fK⟩ fM, f6i k5 hm hj]
 refine dv 5 ?_
 refine x0x rfl rfl rfl (b2f c n h.round (r4r (b2d h w)).1) ?_
 refine dv 8 ?_
 refine rlB p0p b1l ?_
 refine rlM [13] [_] (c5p 6 0 0 0 0 h.round (r4r (b2d h w)).1) rfl rfl rfl ?_
 refine dv 5 fun K K' => ?_
 refine x4x (ι := Nat) (fun i γ1 => [(17, pI (i : Int))]) (fun i γ1 => [(13, ((0 + 1), .row 79 11 ((b6m (b2d h w) (r4r (b2d h w)).1 i).map (w1w true))))]) (fun i => i ≤ 2) (fun i => 2 - i) (q6q [6, 7, 10, 11, 16] rfl) (a0p [0, 1, 2, 3, 4, 5, 6, 7, 8, 9, 10, 11, 12] rfl) 0 (by omega) [] x6x (HE.row rfl (by rfl) HE.nil) rfl fun i γ1 hi => ?_
 refine dv 4 fun K K' => ?_
 refine a3w (n := 2) rfl r8r rfl rfl (by simp [b6m]) ?_
 refine dc 1 (aS ?_ ?_)<;>intro o<;>try simp at o
 ·obtain rfl : i = 2 := by omega
  refine dv 9 ?_
  (rw [hE]; exact ⟨_, _, rfl, a9p (u := b2d h w) (d3o (a2u (l := b6m (b2d h w) (r4r (b2d h w)).1 2) rfl .nil))⟩)
 have hi2 : i < 2 := by omega
 have hat := e5g (b2d h w) (r4r (b2d h w)).1 hi2
 have hlen : (b6m (b2d h w) (r4r (b2d h w)).1 i).length = 2 := by simp [b6m]
 obtain ⟨b, hb⟩ : ∃ b, (b2d h w).twos[i + 1]? = some b := ⟨_, List.getElem?_eq_getElem (by have := hjo.2.2.1; omega)⟩
 refine dv 10 fun K K' => ?_
 refine z0z (j := i) rfl rfl r8r rfl p0p rfl rfl (by omega) ?_
 refine dv 2 ?_
 refine b0q (j := i + 1) rfl rfl r8r rfl p0p rfl hb ?_
 refine dv 2 ?_
 refine z0z (j := i) rfl rfl r8r rfl p0p rfl rfl (by omega) ?_
 refine dv 1 ?_
 refine a8w (d0g (b2d h w) (r4r (b2d h w)).1 (i + 1)) rfl rfl s3s rfl rfl rfl hat rfl (by decide) (.val rfl rfl .nil) (by rw [show b.inc = (d0g (b2d h w) (r4r (b2d h w)).1 (i + 1)).inc from (e5h hb _).symm]; rfl) rfl ?_
 refine dv 2 ?_
 refine x8x (b := 1) rfl rfl (by omega) (dv 1 ?_)
 exact ⟨i + 1, ⟨by omega, by omega⟩, [], x6x, x6x, (HE.row rfl (by rw [d9y _ _ hi2]) HE.nil), x5x, rfl⟩
theorem c6y (c : Bool) (h : Hb) (n : Nd) : a0t Tryz.prog 326 [.agg (a8o true h), .agg (u1u c n)] (r0r true (a9o h n)) := by
 refine pX Tryz.f326 [r0r true (a9o h n)] 8 ?_
 refine dv 1 ?_
 refine y0y (id := 0) rfl rfl rfl (y0y (id := 1) rfl rfl rfl (dv 2 ?_))
 refine y1y (id := 2) a1b rfl w9w rfl (dv 4 fun K K' => ?_)
 refine x0x rfl rfl rfl (b0k ..) (dc 2 (aS ?_ ?_))<;>intro hg2<;>try simp at hg2
 ·have fX : ¬ (a0z h ∧ y3y n ∧ n.id = 0 ∧ h.outs.length = 2) := fun q => a1h (by simpa using hg2) q.1
  refine dv 15 ?_
  try have fX : ¬ (a0z h ∧ y3y n ∧ n.id = 0 ∧ h.outs.length = 2) := fun q => by have := q.2.2.2; omega
  refine dv 4 ?_
  (rw [d3n fX]; exact a5i (l := ([] : List Ou)) rfl rfl (fun _ => rfl) rfl)
 have fH : a0z h := a1d.1 (by simpa using hg2)
 refine dv 1 ?_
 refine x0x rfl rfl rfl (p2p ..) (dc 3 (aS ?_ ?_))<;>intro hg3<;>try simp at hg3
 ·try have fX : ¬ (a0z h ∧ y3y n ∧ n.id = 0 ∧ h.outs.length = 2) := fun q => a1h (by simpa using hg3) q.2.1
  refine dv 10 ?_
  try have fX : ¬ (a0z h ∧ y3y n ∧ n.id = 0 ∧ h.outs.length = 2) := fun q => by have := q.2.2.2; omega
  refine dv 4 ?_
  (rw [d3n fX]; exact a5i (l := ([] : List Ou)) rfl rfl (fun _ => rfl) rfl)
 have fK : y3y n := a1d.1 (by simpa using hg3)
 refine dc 5 (aS ?_ ?_)<;>intro hg4<;>try simp at hg4
 ·try have fX : ¬ (a0z h ∧ y3y n ∧ n.id = 0 ∧ h.outs.length = 2) := fun q => by have := q.2.2.1; omega
  refine dv 5 ?_
  try have fX : ¬ (a0z h ∧ y3y n ∧ n.id = 0 ∧ h.outs.length = 2) := fun q => by have := q.2.2.2; omega
  refine dv 4 ?_
  (rw [d3n fX]; exact a5i (l := ([] : List Ou)) rfl rfl (fun _ => rfl) rfl)
 try have hid : n.id = 0 := hg4
 refine dc 5 (aI ?_ ?_)<;>intro o<;>try simp at o
 ·try have fX : ¬ (a0z h ∧ y3y n ∧ n.id = 0 ∧ h.outs.length = 2) := fun q => by have := q.2.2.2; omega
  refine dv 4 ?_
  (rw [d3n fX]; exact a5i (l := ([] : List Ou)) rfl rfl (fun _ => rfl) rfl)
 have h2 : h.outs.length = 2 := by omega
 have fT : a0z h ∧ y3y n ∧ n.id = 0 ∧ h.outs.length = 2 := ⟨fH, fK, hid, h2⟩
 have hno := (w5w fK.1).2.2.1
 have hwo := d8e fH.2.2.2.1
 refine dv 9 ?_
 refine w6w (zs := n.outs.map q8q) rfl rfl a1b rfl w9w rfl rfl rfl (z9z (fun _ => rfl) _) rfl (by (simp only [a0e, r7r, a0b, a0d, a0u, a2z, T141]; omega)) ?_
 refine dv 5 fun K K' => ?_
 refine x4x (ι := Nat) (fun i γ1 => [(5, .ref 2 (γ1 2)), (6, pI (a1w n.g (h.outs.take i))), (7, pI (i : Int))]) (fun i γ1 => [(2, ((γ1 2), .row 141 5 ((n.outs ++ (h.outs.take i).flatMap Wo.outs).map q8q))), (4, ((γ1 4), .dead))]) (fun i => i ≤ h.outs.length) (fun i => h.outs.length - i) (x7x 2 rfl Cov.nil) (a0p [0, 1, 3, 5, 6, 7] rfl) 0 (by omega) [0, 0, _, 0, _] (x7x 5 rfl (Cov.cons' (t := 6) rfl (rfl) (x7x 7 rfl Cov.nil))) (HE.row rfl (by simp) (HE.kill rfl HE.nil)) rfl fun i γ1 hi => ?_
 refine dc 7 (fun K K' => aI ?_ ?_)<;>intro o<;>try simp at o
 ·obtain ⟨w, hw⟩ := gE h.outs i
  have hw96 := hwo w (List.mem_of_getElem? hw)
  have hfl := a1o (f := Wo.outs) (k := 96) (l := h.outs.take i) fun a ha => hwo a (List.mem_of_mem_take ha)
  have htl : (h.outs.take i).length ≤ 2 := by rw [List.length_take]; omega
  refine dv 3 fun K K' => ?_
  refine p9p (ι := Unit) (fun _i γ2 => [(6, pI (a1w n.g (h.outs.take (i + 1))))]) (fun _i γ2 => []) (fun _i => True) (q6q [2, 5, 7] rfl) (a0p [0, 1, 2, 3, 4, 5, 6, 7] rfl) ?_ fun _i γ2 hi => ?_
  ·refine dc 9 (aS ?_ ?_)<;>intro o<;>try simp at o
   ·have hlt : ¬ w.g < a1w n.g (h.outs.take i) := by omega
    refine dv 1 ?_
    exact ⟨(), trivial, [], (Cov.cons' (t := 6) rfl (congrArg (fun v : Int => AV.pv (.int .i64 v)) (d8b hw hlt)) Cov.nil), x6x, x5x, x5x, rfl⟩
   have hlt : w.g < a1w n.g (h.outs.take i) := by omega
   refine dv 8 ?_
   exact ⟨(), trivial, [], (Cov.cons' (t := 6) rfl (congrArg (fun v : Int => AV.pv (.int .i64 v)) (d8a hw hlt)) Cov.nil), x6x, x5x, x5x, rfl⟩
  ·try dsimp only [b1e, b1f]
   refine dv 8 ?_
   refine w6w (zs := (n.outs ++ (h.outs.take i).flatMap Wo.outs ++ w.outs).map q8q) rfl rfl a1b rfl w9w rfl rfl rfl (z9z (fun _ => rfl) _) (a7x _ _ _) (by (simp only [a0e, r7r, a0b, a0d, a0u, a2z, T141]; omega)) ?_
   refine dv 3 ?_
   refine x8x (b := 1) rfl rfl (by omega) (dv 1 ?_)
   exact ⟨i + 1, ⟨by omega, by omega⟩, [0, 0, _, 0, _], x6x, x6x, (HE.row rfl (by rw [a3y hw, List.append_assoc]) (HE.kill rfl HE.nil)), x5x, rfl⟩
 obtain rfl : i = h.outs.length := by omega
 rw [List.take_length]
 refine dv 1 ?_
 have hall : (n.outs ++ h.outs.flatMap Wo.outs).length ≤ 10000 := by have hfl := a1o (f := Wo.outs) (k := 96) (l := h.outs) hwo; rw [List.length_append]; omega
 obtain ⟨A, hA⟩ : ∃ A, A = (n.outs ++ h.outs.flatMap Wo.outs) := ⟨_, rfl⟩
 rw [← hA] at hall ⊢
 refine p7p 5 rfl rfl (fun _ => rfl) ?_
 refine dv 1 ?_
 refine y1y (id := 5) a1b rfl w9w rfl (dv 5 fun K K' => ?_)
 refine x4x (ι := Nat) (fun j γ3 => [(8, .ref 5 (γ3 5)), (9, pI (j : Int))]) (fun j γ3 => [(5, ((γ3 5), .row 141 5 (((A.take j).filter (d5o (a1w n.g h.outs))).map q8q))), (6, ((γ3 6), .dead)), (7, ((γ3 7), .dead))]) (fun j => j ≤ A.length) (fun j => A.length - j) (q6q [5, 6] rfl) (a0p [0, 1, 2, 3, 4] rfl) 0 (by omega) [0, 0, 0, 0, 0, _, _, _] x6x (HE.row rfl (by rw [List.take_zero]; rfl) (HE.kill rfl (HE.kill rfl HE.nil))) rfl fun j γ3 hi => ?_
 refine dc 6 (fun K K' => aS ?_ ?_)<;>intro o<;>try simp at o
 ·obtain rfl : j = A.length := by omega
  have hfl3 : (A.filter (d5o (a1w n.g h.outs))).length ≤ 10000 := Nat.le_trans (List.length_filter_le _ _) (by omega)
  refine dv 1 ?_
  rw [List.take_length]
  refine p7p 8 rfl rfl (fun _ => rfl) ?_
  refine dv 2 ?_
  refine x0x rfl rfl rfl (a4x true (A.filter (d5o (a1w n.g h.outs))) (by omega)) ?_
  refine dv 2 ?_
  (rw [f0m fT, ← hA]; exact x2x rfl rfl rfl)
 obtain ⟨p, hp⟩ := gE A j
 have hfl2 : ((A.take j).filter (d5o (a1w n.g h.outs))).length ≤ 10000 := Nat.le_trans (List.length_filter_le _ _) (by rw [List.length_take]; omega)
 refine dc 11 (fun K K' => aS ?_ ?_)<;>intro o<;>try simp at o
 ·have hq : ¬ d5o (a1w n.g h.outs) p = true := fun q => by have := of_decide_eq_true q; omega
  refine dv 3 ?_
  refine x8x (b := 1) rfl rfl (by omega) (dv 1 ?_)
  exact ⟨j + 1, ⟨by omega, by omega⟩, [0, 0, 0, 0, 0, _, _, _], x6x, x6x, (HE.row rfl (by rw [q9q hp]; rw [if_neg hq, List.append_nil]) (HE.kill rfl (HE.kill rfl HE.nil))), x5x, rfl⟩
 have hq : d5o (a1w n.g h.outs) p = true := decide_eq_true (by omega)
 refine dv 5 ?_
 refine v4v (out := .agg (q8q p)) rfl w9w rfl ?_
 refine y2y (id := 6) a1b rfl w9w rfl rfl rfl rfl rfl rfl ?_
 refine y6y (zs := ((A.take j).filter (d5o (a1w n.g h.outs)) ++ [p]).map q8q) rfl rfl a1b rfl w9w rfl rfl rfl rfl (by rfl) (z7z _ _ _) (by (simp only [a0e, r7r, a0b, a0d, a0u, a2z, T141]; omega)) ?_
 refine dv 3 ?_
 refine x8x (b := 1) rfl rfl (by omega) (dv 1 ?_)
 exact ⟨j + 1, ⟨by omega, by omega⟩, [0, 0, 0, 0, 0, _, _, _], x6x, x6x, (HE.row rfl (by rw [q9q hp]; rw [if_pos hq]) (HE.kill rfl (HE.kill rfl HE.nil))), x5x, rfl⟩
end
section
variable {W : Tw} {i : Nat}
theorem a6l (h : c0f W) {m : Nd} (hm : ndI m) : c0f { W with nodes := W.nodes.set i m } := ⟨h.1, by show (W.nodes.set i m).length = 3; rw [List.length_set]; exact h.2.1, f8g h.2.2.1 hm, h.2.2.2⟩
variable {r : List Wo}
theorem a7g (h : c0f W) (h1 : r.length ≤ 40) (h2 : ∀ x ∈ r, d0h x) : c0f { W with radio := r } := ⟨h.1, h.2.1, h.2.2.1, h1, h2, h.2.2.2.2.2⟩
theorem d3q (h : c0f W) {u : Hb} (hu : a0z u) : c0f { W with hub := u } := ⟨h.1, h.2.1, h.2.2.1, h.2.2.2.1, h.2.2.2.2.1, hu, h.2.2.2.2.2.2⟩
theorem f4b (h : c0f W) {s : List Ou} (hs : s.length ≤ 1000000) : c0f { W with sink := s } := ⟨h.1, h.2.1, h.2.2.1, h.2.2.2.1, h.2.2.2.2.1, h.2.2.2.2.2.1, hs⟩
theorem b3c (h : c0f W) (hi : i ≤ 2) : ∃ n, W.nodes[i]? = some n ∧ ndI n := by
 obtain ⟨n, hn⟩ := f3p h.2.1 i (by omega)
 exact ⟨n, hn, h.2.2.1 n (List.mem_of_getElem? hn)⟩
variable {m : List Wo}
theorem b5i (h : c0f W) (k : ∀ x ∈ m, d0h x) : c0f { W with radio := b2y W.radio m } := a7g h (e8s h.2.2.2.1) (e8t h.2.2.2.2.1 k)
theorem e6a {w : Wo} (h : m[i]? = some w) (hl : (r ++ m.take i).length < 40) : r ++ m.take i ++ [w] = r ++ m.take (i + 1) := by rw [z6z h, List.append_assoc]
theorem d8h (hr : r.length ≤ 40) (hi : i ≤ m.length) (h40 : r.length + i ≤ 40) (h : ¬ (i < m.length ∧ r.length + i < 40)) : r ++ m.take i = b2y r m := by
 unfold b2y
 rcases Nat.lt_or_ge i m.length with h1 | h1
 ·rw [show 40 - r.length = i from by omega]
 ·rw [List.take_of_length_le h1, List.take_of_length_le (by omega)]
variable {h : Hb} {n : Nd}
theorem e9h : (a9o h n).length ≤ 10000 := by
 by_cases k : a0z h ∧ y3y n ∧ n.id = 0 ∧ h.outs.length = 2
 ·rw [f0m k, b5s]
  have hno := (w5w k.2.1.1).2.2.1
  have hwo := d8e k.1.2.2.2.1
  have hfl := a1o (f := Wo.outs) (k := 96) (l := h.outs) hwo
  refine Nat.le_trans (List.length_filter_le _ _) ?_
  rw [List.length_append]; omega
 ·rw [d3n k]; exact Nat.zero_le _

def kpB : Bool → List Nat
 | true => [0]
 | false => [0, 1]
def kpS : List Wo → List Nat
 | [] => [0]
 | _ :: _ => []
theorem d5q (γ : Nat → Nat) (b : Bool) (f : List Nat → Nat → Nat) (h0 : f [γ 0, γ 1] 0 = γ 0) (h1 : f [γ 0, γ 1] 1 = γ 1) : (kpB b).map (f [γ 0, γ 1]) = (kpB b).map γ := by
 cases b <;> simp [kpB, h0, h1]
theorem c5s (k : a0z h ∧ y3y n) : ((q5q h n).2.2 = [] ∧ ¬ n.led < (q5q h n).2.1.led) ∨ n.led < (q5q h n).2.1.led := by
 by_cases m : a5j n
 ·rw [d5k k m]; exact .inr (by show n.led < n.led + 1; omega)
 ·rw [c5f k m]; exact .inl ⟨rfl, by show ¬ n.led < n.led; omega⟩
variable {j : Nat}
theorem e6b (h : c0f W) : (W.radio.take j ++ W.radio.drop (j + 1)).length ≤ 40 := by
 have := h.2.2.2.1
 simp only [List.length_append, List.length_take, List.length_drop]; omega
theorem e6c (h : c0f W) : ∀ q ∈ W.radio.take j ++ W.radio.drop (j + 1), d0h q := fun q hq =>
 h.2.2.2.2.1 q ((List.mem_append.1 hq).elim List.mem_of_mem_take List.mem_of_mem_drop)
theorem f4c {W T : Tw} (h : c0f W) (k : c0f T) : c0f { W with nodes := T.nodes } := ⟨h.1, k.2.1, k.2.2.1, h.2.2.2⟩
theorem b2g (bs : List Nat) (p n : Nat) : pk bs p n ≤ n := by
 rcases Nat.eq_zero_or_pos n with h | h
 ·subst h; unfold pk; rw [if_pos (.inl (by omega))]; exact Nat.le_refl _
 ·exact Nat.le_of_lt (a3r bs p n h)

def pSm (S : Sm) (p : Nat) : Sm := ⟨S.w, S.list, p⟩
theorem a3p {S : Sm} {c d p : Nat} (h : smOk S c) (hd : c ≤ d) (hp : p ≤ d) : smOk (pSm S p) d := ⟨h.1, Nat.le_trans h.2.1 hd, hp⟩

def f7e (l : List Ru) : Prop := ∀ (i : Nat) r, l[i]? = some r → r.kind = (i : Int) ∧ d0z r
theorem ru0 {k : Int} : d0z ⟨k, []⟩ := ⟨fun o h => (by cases h), Nat.zero_le _, Nat.zero_le _, Nat.zero_le _⟩
theorem f6s {l : List Ru} (hl : l.length ≤ 3) (h : f7e l) : e4q ⟨l⟩ := ⟨by show l.length ≤ 4; omega, fun i r hr => by
 have hi : i < l.length := (List.getElem?_eq_some_iff.1 hr).1
 have h1 := h i r hr
 refine ⟨by omega, h1.2, fun p h0 hp => ?_⟩
 have h2 := h _ p hp
 omega⟩
theorem f6t {l : List Ru} {ops : List Op_} {q q1 q2 : Nat} (h : f7e l) (ho : d0z ⟨(l.length : Int), ops⟩) (hl : l.length < 3) (h3 : q1 ≤ q + 40 * l.length) (h4 : q2 ≤ q1 + 40) : (l ++ [(⟨(l.length : Int), ops⟩ : Ru)]).length ≤ 3 ∧ f7e (l ++ [(⟨(l.length : Int), ops⟩ : Ru)]) ∧ q2 ≤ q + 40 * (l ++ [(⟨(l.length : Int), ops⟩ : Ru)]).length := by
 rw [List.length_append]
 refine ⟨by show l.length + 1 ≤ 3; omega, fun i r hr => ?_, by show q2 ≤ q + 40 * (l.length + 1); omega⟩
 rcases Nat.lt_or_ge i l.length with hi | hi
 ·rw [List.getElem?_append_left hi] at hr; exact h i r hr
 ·rw [List.getElem?_append_right hi] at hr
  cases e : i - l.length with
  | zero => rw [e] at hr; cases hr; exact ⟨by show (l.length : Int) = (i : Int); omega, ho⟩
  | succ n => rw [e] at hr; simp at hr
variable {l : List Ap}
theorem f6u {rs : List Ru} {p0 q q1 : Nat} (h : ∀ a ∈ l, e4q a) (ha : e4q ⟨rs⟩) (hl : l.length < 4) (h3 : q ≤ p0 + 120 * l.length) (h4 : q1 ≤ q + 40 * rs.length) (hr : rs.length ≤ 3) : (l ++ [(⟨rs⟩ : Ap)]).length ≤ 4 ∧ (∀ a ∈ l ++ [(⟨rs⟩ : Ap)], e4q a) ∧ q1 ≤ p0 + 120 * (l ++ [(⟨rs⟩ : Ap)]).length := by
 rw [List.length_append]
 refine ⟨by show l.length + 1 ≤ 4; omega, fun a hm => ?_, by show q1 ≤ p0 + 120 * (l.length + 1); omega⟩
 rcases List.mem_append.1 hm with hm | hm
 ·exact h a hm
 ·rw [List.mem_singleton.1 hm]; exact ha
theorem e9i (h : a7n l) : c0f ⟨0, l, b0u 3, [], hb0, []⟩ := ⟨h, rfl, fun n hn => by
 obtain ⟨i, hi, rfl⟩ := List.mem_map.1 hn
 have := List.mem_range.1 hi
 exact f3r _ (by omega), Nat.zero_le _, fun x h => (by cases h), e5a, Nat.zero_le _⟩
variable {p c : Nat}
theorem e9j (h : a7n l) (hp : p ≤ c) : smOk ⟨⟨0, l, b0u 3, [], hb0, []⟩, [], p⟩ c := ⟨e9i h, Nat.zero_le _, hp⟩
end
section
theorem c2h (r : List Wo) (hr : r.length ≤ 40) : Meth Tryz.prog 312 1 [0] [.ref 0 0, w7w true ([] : List Wo)] [(0, (0, .row 79 11 ((r).map (w1w true))))] (.ref 0 0) [(0, (0, .row 79 11 ((r).map (w1w true))))] := by
 refine mX Tryz.f312 [.ref 0 0] 1 2 fun γ => ?_
 refine dv 6 fun K K' => ?_
 refine x4x (ι := Nat) (fun i γ1 => [(0, .ref 0 (γ 0)), (5, pI (i : Int))]) (fun i γ1 => [(0, ((γ 0), .row 79 11 ((r).map (w1w true)))), (1, ((γ1 1), .dead)), (2, ((γ1 2), .dead))]) (fun i => i = 0) (fun i => i) (x7x 1 rfl Cov.nil) HE.nil 0 rfl [0, _, _] x6x x5x rfl fun i γ1 hi => ?_
 subst hi
 refine dv 7 fun K K' => ?_
 refine d8t rfl rfl (fun hg3 => ?_) (fun hg3 => ?_)
 ·(simp at hg3; done)
 try simp at hg3
 refine dv 3 ?_
 refine a0l rfl (fun hc5 => ?_) (fun hc5 => ?_)
 ·(simp at hc5; done)
 try simp at hc5
 refine dv 5 ?_
 exact ⟨[γ 0], rfl, rfl, x5x⟩
theorem c2i (r m : List Wo) (hr : r.length ≤ 40) : Meth Tryz.prog 312 1 [] [.ref 0 0, w7w true m] [(0, (0, .row 79 11 ((r).map (w1w true))))] (.ref 0 0) [(0, (0, .row 79 11 ((b2y r m).map (w1w true))))] := by
 refine mX Tryz.f312 [.ref 0 0] 1 2 fun γ => ?_
 refine dv 6 fun K K' => ?_
 refine x4x (ι := Nat) (fun i γ1 => [(0, .ref 0 (γ1 0)), (5, pI (i : Int))]) (fun i γ1 => [(0, ((γ1 0), .row 79 11 ((r ++ m.take i).map (w1w true)))), (1, ((γ1 1), .dead)), (2, ((γ1 2), .dead))]) (fun i => i ≤ m.length ∧ r.length + i ≤ 40) (fun i => m.length - i) (x7x 1 rfl Cov.nil) HE.nil 0 ⟨Nat.zero_le _, hr⟩ [_, _, _] x6x (HE.row rfl (by simp) (HE.kill rfl (HE.kill rfl HE.nil))) rfl fun i γ1 hi => ?_
 obtain ⟨h1, h2⟩ := hi
 have hl : (r ++ m.take i).length = r.length + i := by simp; omega
 refine dc 7 (fun K K' => aS ?_ ?_)<;>intro h<;>try simp at h
 ·refine dv 9 ?_
  exact ⟨[_], rfl, rfl, HE.row rfl (by rw [d8h hr h1 h2 (by omega)]) HE.nil⟩
 refine dv 1 ?_
 refine a3w (n := r.length + i) rfl r8r rfl rfl (by rw [List.length_map]; exact hl) ?_
 refine dc 2 (aS ?_ ?_)<;>intro h<;>try simp at h
 ·refine dv 5 ?_
  exact ⟨[_], rfl, rfl, HE.row rfl (by rw [d8h hr h1 h2 (by omega)]) HE.nil⟩
 obtain ⟨w, hw⟩ := gE m i
 refine dv 9 fun K K' => ?_
 refine y2y (id := 1) r8r rfl p0p rfl rfl rfl rfl rfl rfl ?_
 refine y6y (zs := (r ++ m.take i ++ [w]).map (w1w true)) rfl rfl r8r rfl p0p rfl rfl rfl rfl (by rfl) (z7z (w1w true) _ w) (by (simp only [a0e, r7r, a0b, a0d, a0u, a2z, T79]; omega)) ?_
 refine dv 3 ?_
 refine x8x (b := 1) rfl rfl (by omega) (dv 1 ?_)
 exact ⟨i + 1, ⟨⟨by omega, by omega⟩, by omega⟩, [_, _, _], x6x, x6x, (HE.row rfl (by rw [← e6a hw (by rw [hl]; omega)]) (HE.kill rfl (HE.kill rfl HE.nil))), x5x, rfl⟩
theorem a1m (r m : List Wo) (hr : r.length ≤ 40) : Meth Tryz.prog 312 1 (kpS m) [.ref 0 0, w7w true m] [(0, (0, .row 79 11 ((r).map (w1w true))))] (.ref 0 0) [(0, (0, .row 79 11 ((b2y r m).map (w1w true))))] := by
 cases m with
 | nil =>
  have e : b2y r [] = r := by simp [b2y]
  rw [e]; exact c2h r hr
 | cons x l => exact c2i r (x :: l) hr
end
section
theorem c5t (c : Bool) (n : Nd) : a0t Tryz.prog 54 [.agg (u1u c n)] (.agg (u1u true (a8k n))) := by
 refine pX Tryz.f54 [.agg (u1u true (a8k n))] 6 ?_
 refine dv 1 ?_
 refine y0y (id := 0) rfl rfl rfl (x3x (id := 1) u9u q1q rfl (dv 3 fun K K' => ?_))
 refine x0x rfl rfl rfl (p2p ..) (dc 1 (aI ?_ ?_))<;>intro hc2<;>try simp at hc2
 ·have fX : ¬ y3y n := a1h (by simpa using hc2)
  refine dv 1 ?_
  refine rlB u9u q1q ?_
  refine dv 2 ?_
  (rw [d9k fX]; exact ⟨_, _, rfl, e4g⟩)
 have fK : y3y n := a1d.1 (by simpa using hc2)
 have fS := fK.1
 have fB := w5w fS
 have fb := c0x fS
 refine dv 3 ?_
 refine rlM [3, 4, 5] [_, _, _] (a6w c n fb.1 fb.2.1 fb.2.2.1 fb.2.2.2.1) rfl rfl rfl ?_
 refine x3x (id := 2) u9u q1q rfl (dv 8 ?_)
 (rw [c0v fK]; exact ⟨_, _, rfl, b7o (n := ({ a2m n with up := false } : Nd)) rfl rfl rfl⟩)
theorem c5u (c : Bool) (n : Nd) : a0t Tryz.prog 58 [.agg (u1u c n)] (.agg (u1u true (a5f n))) := by
 refine pX Tryz.f58 [.agg (u1u true (a5f n))] 6 ?_
 refine dv 1 ?_
 refine y0y (id := 0) rfl rfl rfl (x3x (id := 1) u9u q1q rfl (dv 3 fun K K' => ?_))
 refine x0x rfl rfl rfl (p2p ..) (dc 1 (aI ?_ ?_))<;>intro hc2<;>try simp at hc2
 ·have fX : ¬ y3y n := a1h (by simpa using hc2)
  refine dv 1 ?_
  refine rlB u9u q1q ?_
  refine dv 2 ?_
  (rw [d9l fX]; exact ⟨_, _, rfl, e4g⟩)
 have fK : y3y n := a1d.1 (by simpa using hc2)
 have fS := fK.1
 have fB := w5w fS
 have fb := c0x fS
 refine dc 6 (fun K K' => aS ?_ ?_)<;>intro j<;>try simp at j
 ·refine dv 5 ?_
  have fU : n.up = true ∨ 9999 ≤ n.inc := by (simp_all; done)
  refine dv 2 ?_
  refine rlM [3, 4, 5] [_, _, _] (y5y c n fb) rfl rfl rfl ?_
  refine dv 2 ?_
  (rw [b5r fK fU]; exact ⟨_, _, rfl, b7o rfl rfl rfl⟩)
 refine dv 2 ?_
 refine x0x rfl rfl rfl (u6u ..) (dc 2 (aI ?_ ?_))<;>intro hc5<;>try simp at hc5
 ·have fU : n.up = true ∨ 9999 ≤ n.inc := .inr hc5
  refine dv 2 ?_
  refine rlM [3, 4, 5] [_, _, _] (y5y c n fb) rfl rfl rfl ?_
  refine dv 2 ?_
  (rw [b5r fK fU]; exact ⟨_, _, rfl, b7o rfl rfl rfl⟩)
 have fU : ¬ (n.up = true ∨ 9999 ≤ n.inc) := by rintro (h | h) <;> first | omega | (simp_all; done)
 refine dv 3 ?_
 refine rlM [3, 4, 5] [_, _, _] (a6w c n fb.1 fb.2.1 fb.2.2.1 fb.2.2.2.1) rfl rfl rfl ?_
 refine x3x (id := 2) u9u q1q rfl (dv 7 ?_)
 refine s5s (.int .i64 (n.inc + 1)) rfl rfl rfl (a6s rfl rfl (by have := fS.1.2.1; omega) (by have := fS.1.2.1; omega)) ?_
 refine dv 9 ?_
 (rw [c0w fK fU]; exact ⟨_, _, rfl, b7o (n := ({ a2m n with up := true, inc := n.inc + 1, version := 1 } : Nd)) rfl rfl rfl⟩)
end
section
theorem c5v (c : Bool) (n : Nd) : a0t Tryz.prog 49 [.agg (u1u c n)] (w7w true (c4n n)) := by
 refine pX Tryz.f49 [w7w true (c4n n)] 8 ?_
 refine dv 1 ?_
 refine y0y (id := 0) rfl rfl rfl (dv 2 ?_)
 refine y1y (id := 1) r8r rfl p0p rfl (dv 4 fun K K' => ?_)
 refine x0x rfl rfl rfl (p2p ..) (dc 2 (aS ?_ ?_))<;>intro hg2<;>try simp at hg2
 ·have fX : ¬ (y3y n ∧ n.up = true) := fun h => a1h (by simpa using hg2) h.1
  refine dv 8 ?_
  (rw [e3b fX]; exact a5i (l := ([] : List Wo)) rfl rfl (fun _ => rfl) rfl)
 have fK : y3y n := a1d.1 (by simpa using hg2)
 have fS := fK.1
 have fB := w5w fS
 have fV := fS.2.2.2.2.2.1
 refine dc 4 (aI ?_ ?_)<;>intro hc3<;>try simp at hc3
 ·have fX : ¬ (y3y n ∧ n.up = true) := by (intro h; simp_all; done)
  refine dv 4 ?_
  (rw [e3b fX]; exact a5i (l := ([] : List Wo)) rfl rfl (fun _ => rfl) rfl)
 have fU : n.up = true := hc3
 refine dv 5 fun K K' => ?_
 refine x4x (ι := Nat) (fun i γ1 => [(3, .ref 1 (γ1 1)), (4, pI (i : Int))]) (fun i γ1 => [(1, ((γ1 1), .row 79 11 ((a7m n i).map (w1w true)))), (2, ((γ1 2), .dead)), (3, ((γ1 3), .dead))]) (fun i => i ≤ 3) (fun i => 3 - i) (x7x 1 rfl Cov.nil) (a0p [0, 4, 5, 6, 7] rfl) 0 (by omega) [0, _, _, _] x6x (HE.row rfl (by rfl) (HE.kill rfl (HE.kill rfl HE.nil))) rfl fun i γ1 hi => ?_
 refine dc 4 (fun K K' => aI ?_ ?_)<;>intro j<;>try simp at j
 ·refine dc 8 (fun K K' => aS ?_ ?_)<;>intro hc8<;>try simp at hc8
  ·have hto : (i : Int) = n.id := hc8
   refine dv 1 ?_
   skip
   refine dv 2 ?_
   refine z8z rfl rfl rfl (dv 1 ?_)
   exact ⟨i + 1, ⟨by omega, by omega⟩, [0, _, _, _], (x7x 3 rfl (Cov.cons' (t := 4) rfl (by rw [x9x (by omega) (by omega)]; rfl) Cov.nil)), x6x, (HE.row rfl (by rw [d7e hto]) (HE.kill rfl (HE.kill rfl HE.nil))), x5x, rfl⟩
  have hto : ¬ (i : Int) = n.id := hc8
  have htl := c4k fS (i : Int)
  have htn := c4m n i
  refine dv 13 ?_
  refine x0x rfl rfl rfl (a9q c n i (by omega) fS.2.2.2.2.2.2.1 (by have := b1u fS; omega) (by omega)) ?_
  refine rlB p0p b1l ?_
  refine y2y (id := 2) r8r rfl p0p rfl rfl rfl rfl rfl rfl ?_
  refine y6y (zs := (a7m n i).map (w1w true) ++ [[pI (b4n n (i : Int)).kind, pI (b4n n (i : Int)).from', pI (b4n n (i : Int)).to, pI (b4n n (i : Int)).inc, pI (b4n n (i : Int)).version, pI (b4n n (i : Int)).round, pI (b4n n (i : Int)).g, .pv (.slice none 0 0), .pv (.slice none 0 0), q3q true (a1v n (i : Int)), .pv (.slice none 0 0)]]) rfl rfl r8r rfl p0p rfl rfl rfl rfl rfl rfl (by (simp only [a0e, r7r, a0b, a0d, a0u, a2z, T79] at *; omega)) ?_
  refine dv 1 ?_
  refine f0a 1 rfl (LeLs.snoc (x' := w1w true (b4n n (i : Int))) (.same (.same (.same (.same (.same (.same (.same (.le rfl .nil rfl (.le rfl .nil rfl (.same (.le rfl .nil rfl .nil))))))))))) _) ?_
  refine dv 2 ?_
  refine z8z rfl rfl rfl (dv 1 ?_)
  exact ⟨i + 1, ⟨by omega, by omega⟩, [0, _, _, _], (x7x 3 rfl (Cov.cons' (t := 4) rfl (by rw [x9x (by omega) (by omega)]; rfl) Cov.nil)), x6x, (HE.row rfl (by (rw [d7c hto, List.map_append]; rfl)) (HE.kill rfl (HE.kill rfl HE.nil))), x5x, rfl⟩
 obtain rfl : i = 3 := by omega
 have htn := c4m n 3
 refine dc 6 (fun K K' => aS ?_ ?_)<;>intro hc10<;>try simp at hc10
 ·have h0 : n.id = 0 := hc10
  refine dv 1 ?_
  skip
  refine dv 4 ?_
  (rw [f2e ⟨fK, fU⟩ h0]; exact a5i rfl rfl (fun _ => rfl) rfl)
 have h0 : ¬ n.id = 0 := hc10
 refine dv 6 ?_
 refine y1y (id := 4) a1b rfl w9w rfl (dv 2 ?_)
 refine a2c v3v (zs := (n.outs).map q8q) rfl rfl a1b rfl w9w rfl rfl rfl (z9z (fun _ => rfl) _) rfl (by (simp only [a0e, r7r, a0b, a0d, a0u, a2z, T141] at *; omega)) (Le.ow_map _ (fun _ => rfl) (fun _ => rfl)) ?_
 refine rlB p0p b1l ?_
 refine y2y (id := 6) r8r rfl p0p rfl rfl rfl rfl rfl rfl ?_
 refine y6y (zs := (a7m n 3).map (w1w true) ++ [[pI (c4l n).kind, pI (c4l n).from', pI (c4l n).to, pI (c4l n).inc, pI (c4l n).version, pI (c4l n).round, pI (c4l n).g, .pv (.slice none 0 0), .pv (.slice none 0 0), .pv (.slice none 0 0), r0r true n.outs]]) rfl rfl r8r rfl p0p rfl rfl rfl rfl rfl rfl (by (simp only [a0e, r7r, a0b, a0d, a0u, a2z, T79] at *; omega)) ?_
 refine dv 1 ?_
 (refine f0a 1 rfl (LeLs.snoc (x' := w1w true (c4l n)) (.same (.same (.same (.same (.same (.same (.same (.le rfl .nil rfl (.le rfl .nil rfl (.le rfl .nil rfl (.same .nil))))))))))) _) ?_; refine b4h 1 (xs' := (a7m n 3 ++ [c4l n]).map (w1w true)) rfl (by rw [List.map_append]; rfl) ?_)
 refine dv 4 ?_
 (rw [f2g ⟨fK, fU⟩ h0]; exact a5i rfl rfl (fun _ => rfl) rfl)
end
end Go.Proofs.YtlgknoapdbpojaaGreat.Am
