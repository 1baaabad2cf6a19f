/- Part 4 of the texts that the proof of LawFnNodeTend leans on, merged by program. -/
import Derived.Test.YtlgknoapdbpojaaGreatKw3
set_option linter.unusedVariables false
set_option linter.unusedSimpArgs false
set_option maxHeartbeats 4000000
set_option autoImplicit true
set_option relaxedAutoImplicit true
namespace Go.Proofs.YtlgknoapdbpojaaGreat.Am
open Go Go.RowKit
section
theorem a1h (S : Rn) (e : Ev) (r : Int) : Meth Tryz.prog 338 3 [0, 1, 2] [.ptr 0 0 0, .pv (.int .i64 r)] [(0, (0, .box 362 [pI S.s.x, pI S.s.y, pI S.s.count, pI e.time, pI e.to, pI e.from', pI e.count, pI e.n, pI e.kind, pI e.arg, .ref 1 0, .ref 2 0])), (1, (0, .row 56 7 ((S.sends).map z1z))), (2, (0, .row 141 5 ((S.outs).map q5q)))] (.pv (.int .i64 (if r = 0 then S.s.x else S.s.y))) [] := by
 refine mX Tryz.f338 [.pv (.int .i64 (if r = 0 then S.s.x else S.s.y))] 3 0 fun γ => ?_
 refine dc 6 (fun K K' => aI ?_ ?_)<;>intro hc2<;>try simp at hc2
 ·have k : r = 0 := hc2
  refine dv 8 ?_
  exact ⟨[γ 0, γ 1, γ 2], rfl, congrArg (fun v : Int => some [AV.pv (.int .i64 v)]) (if_pos k).symm, x4x⟩
 have k : ¬ r = 0 := hc2
 refine dv 9 ?_
 exact ⟨[γ 0, γ 1, γ 2], rfl, congrArg (fun v : Int => some [AV.pv (.int .i64 v)]) (if_neg k).symm, x4x⟩
theorem a4h (S : Rn) (e : Ev) (r n : Int) : Meth Tryz.prog 337 3 [0, 1, 2] [.ptr 0 0 0, .pv (.int .i64 r), .pv (.int .i64 n)] [(0, (0, .box 362 [pI S.s.x, pI S.s.y, pI S.s.count, pI e.time, pI e.to, pI e.from', pI e.count, pI e.n, pI e.kind, pI e.arg, .ref 1 0, .ref 2 0])), (1, (0, .row 56 7 ((S.sends).map z1z))), (2, (0, .row 141 5 ((S.outs).map q5q)))] (.tup []) [(0, (0, .box 362 [pI (f5g S.s r n).x, pI (f5g S.s r n).y, pI S.s.count, pI e.time, pI e.to, pI e.from', pI e.count, pI e.n, pI e.kind, pI e.arg, .ref 1 0, .ref 2 0]))] := by
 refine mX Tryz.f337 [] 3 0 fun γ => ?_
 refine dc 3 (aI ?_ ?_)<;>intro hc1<;>try simp at hc1
 ·have k : r = 0 := hc1
  refine dv 3 ?_
  refine u7u rfl rfl rfl (dv 4 ?_)
  exact ⟨[γ 0, γ 1, γ 2], rfl, rfl, HE.box rfl (by unfold f5g; rw [if_pos k]; rfl) (HE.same rfl (HE.same rfl HE.nil))⟩
 have k : ¬ r = 0 := hc1
 refine dv 3 ?_
 refine u7u rfl rfl rfl (dv 4 ?_)
 exact ⟨[γ 0, γ 1, γ 2], rfl, rfl, HE.box rfl (by unfold f5g; rw [if_neg k]; rfl) (HE.same rfl (HE.same rfl HE.nil))⟩
theorem c2u (S : Rn) (e : Ev) (o : Op_) (ho : b0r o) (hs : S.sends.length ≤ 1000) (hu : S.outs.length ≤ 1000) : MethE Tryz.prog 336 3 [.ptr 0 0 0, .agg (b2o o)] [(0, (0, .box 362 [pI S.s.x, pI S.s.y, pI S.s.count, pI e.time, pI e.to, pI e.from', pI e.count, pI e.n, pI e.kind, pI e.arg, .ref 1 0, .ref 2 0])), (1, (0, .row 56 7 ((S.sends).map z1z))), (2, (0, .row 141 5 ((S.outs).map q5q)))] (ι := Rn × Int) (fun S' => S'.1.s.count = S.s.count ∧ S'.1.sends.length ≤ S.sends.length + 1 ∧ S'.1.outs.length ≤ S.outs.length + 1 ∧ (∀ q ∈ S'.1.outs, q ∈ S.outs ∨ q.time = e.time) ∧ 0 ≤ S'.2 ∧ S'.2 ≤ 8) (fun S' => [0]) (fun S' => .pv (.int .i64 S'.2)) (fun S' => [(0, (0, .box 362 [pI S'.1.s.x, pI S'.1.s.y, pI S'.1.s.count, pI e.time, pI e.to, pI e.from', pI e.count, pI e.n, pI e.kind, pI e.arg, .ref 1 0, .ref 2 0])), (1, (0, .row 56 7 ((S'.1.sends).map z1z))), (2, (0, .row 141 5 ((S'.1.outs).map q5q)))]) := by
 refine b5g w5w (fn := Tryz.f336) (by kernel_rfl) (by kernel_rfl) rfl (ι := Rn × Int) (OF := fun S' => [.pv (.int .i64 S'.2)]) 3 5 (r9r rfl) (by rfl) (fun _ _ => by rfl) (by repeat (first | exact BndH.nil | refine BndH.box rfl ?_ | refine BndH.row (q0q fun _ => rfl) ?_)) (fun _ _ => (by repeat (first | exact BndH.nil | refine BndH.box rfl ?_ | refine BndH.row (q0q fun _ => rfl) ?_))) (fun _ _ => by rfl) fun γ => ?_
 show Ex Tryz.prog _ _ [(0, .ptr 0 (γ 0) 0), (1, .agg (b2o o))] [(0, ((γ 0), .box 362 [pI S.s.x, pI S.s.y, pI S.s.count, pI e.time, pI e.to, pI e.from', pI e.count, pI e.n, pI e.kind, pI e.arg, .ref 1 (γ 1), .ref 2 (γ 2)])), (1, ((γ 1), .row 56 7 ((S.sends).map z1z))), (2, ((γ 2), .row 141 5 ((S.outs).map q5q))), (7, (0, .dead)), (6, (0, .dead)), (5, (0, .dead)), (4, (0, .dead)), (3, (0, .dead))] _
 refine dv 1 ?_
 refine y3y (id := 3) rfl rfl rfl (p9p rfl (a5b fun K K' => ?_))
 refine exR (p6p rfl a0z rfl rfl r3r rfl rfl (y9y rfl r3r rfl rfl (a8n (exR (b7a rfl rfl rfl (p9p rfl (a0f rfl ?_ ?_)))))))<;>intro u<;>try simp at u
 ·refine exG (s5s rfl (p6p rfl a0z rfl rfl r3r rfl rfl (y9y rfl r3r rfl rfl (p6p rfl a0z rfl rfl r3r rfl rfl (y9y rfl r3r rfl rfl ?_)))))
  refine rlM [0, 1, 2] [_, _, _] (a4h S e (o.a) (o.b)) rfl rfl rfl ?_
  refine hkL (by assumption) ?_
  refine exR (p9p rfl (b1a ?_))
  exact ⟨.inr rfl, (⟨⟨_, _, S.s.count⟩, S.sends, S.outs⟩, 0), ⟨by dsimp only, by exact Nat.le_succ _, by exact Nat.le_succ _, by exact (fun q h => .inl h), by show (0 : Int) ≤ 0; omega, by show (0 : Int) ≤ 8; omega⟩, [γ 0, _, _], rfl, rfl, HE.box rfl rfl (HE.row rfl rfl (HE.row rfl rfl HE.nil))⟩
 refine dc 3 (aI ?_ ?_)<;>intro u<;>try simp at u
 ·refine exH (s5s rfl (p6p rfl a0z rfl rfl r3r rfl rfl (y9y rfl r3r rfl rfl (s5s rfl (p6p rfl a0z rfl rfl r3r rfl rfl (y9y rfl r3r rfl rfl ?_))))))
  refine rlM [0, 1, 2] [_, _, _] (a1h S e (o.a)) rfl rfl rfl ?_
  refine s5s rfl (p6p rfl a0z rfl rfl r3r rfl rfl (y9y rfl r3r rfl rfl ?_))
  refine rlM [0, 1, 2] [_, _, _] (a1h S e (o.b)) rfl rfl rfl ?_
  refine u7u rfl rfl rfl ?_
  refine rlM [0, 1, 2] [_, _, _] (a4h S e (o.a) (IntKind.i64.wrap ((if o.a = 0 then S.s.x else S.s.y) + (if o.b = 0 then S.s.x else S.s.y)))) rfl rfl rfl ?_
  refine ⟨by kernel_rfl, hkL (by assumption) ?_⟩
  refine exR (p9p rfl (b1a ?_))
  exact ⟨.inr rfl, (⟨⟨_, _, S.s.count⟩, S.sends, S.outs⟩, 0), ⟨by dsimp only, by exact Nat.le_succ _, by exact Nat.le_succ _, by exact (fun q h => .inl h), by show (0 : Int) ≤ 0; omega, by show (0 : Int) ≤ 8; omega⟩, [γ 0, _, _], rfl, rfl, HE.box rfl rfl (HE.row rfl rfl (HE.row rfl rfl HE.nil))⟩
 refine exR (b7a rfl rfl rfl (p9p rfl (a0f rfl ?_ ?_)))<;>intro u<;>try simp at u
 ·refine exH (s5s rfl (p6p rfl a0z rfl rfl r3r rfl rfl (y9y rfl r3r rfl rfl (s5s rfl (p6p rfl a0z rfl rfl r3r rfl rfl (y9y rfl r3r rfl rfl ?_))))))
  refine rlM [0, 1, 2] [_, _, _] (a1h S e (o.a)) rfl rfl rfl ?_
  refine p6p rfl a0z rfl rfl r3r rfl rfl (y9y rfl r3r rfl rfl (u7u rfl rfl rfl ?_))
  refine rlM [0, 1, 2] [_, _, _] (a4h S e (o.a) (IntKind.i64.wrap ((if o.a = 0 then S.s.x else S.s.y) + o.b))) rfl rfl rfl ?_
  refine ⟨by kernel_rfl, hkL (by assumption) ?_⟩
  refine exR (p9p rfl (b1a ?_))
  exact ⟨.inr rfl, (⟨⟨_, _, S.s.count⟩, S.sends, S.outs⟩, 0), ⟨by dsimp only, by exact Nat.le_succ _, by exact Nat.le_succ _, by exact (fun q h => .inl h), by show (0 : Int) ≤ 0; omega, by show (0 : Int) ≤ 8; omega⟩, [γ 0, _, _], rfl, rfl, HE.box rfl rfl (HE.row rfl rfl (HE.row rfl rfl HE.nil))⟩
 refine dc 3 (aI ?_ ?_)<;>intro u<;>try simp at u
 ·refine exH (s5s rfl (p6p rfl a0z rfl rfl r3r rfl rfl (y9y rfl r3r rfl rfl (s5s rfl (e7j rfl rfl (p6p rfl e7f rfl rfl z4z rfl rfl (p6p rfl z4z rfl rfl r3r rfl rfl (y9y rfl r3r rfl rfl ?_))))))))
  refine rlM [0, 1, 2] [_, _, _] (a4h S e (o.a) (e.arg)) rfl rfl rfl ?_
  refine ⟨by kernel_rfl, hkL (by assumption) ?_⟩
  refine exR (p9p rfl (b1a ?_))
  exact ⟨.inr rfl, (⟨⟨_, _, S.s.count⟩, S.sends, S.outs⟩, 0), ⟨by dsimp only, by exact Nat.le_succ _, by exact Nat.le_succ _, by exact (fun q h => .inl h), by show (0 : Int) ≤ 0; omega, by show (0 : Int) ≤ 8; omega⟩, [γ 0, _, _], rfl, rfl, HE.box rfl rfl (HE.row rfl rfl (HE.row rfl rfl HE.nil))⟩
 refine dc 3 (aI ?_ ?_)<;>intro hc6<;>try simp at hc6
 ·have k5 : o.do' = 5 := hc6
  have hoc : 1 ≤ o.c ∧ o.c ≤ 8 := by unfold b0r at ho; omega
  refine dv 4 ?_
  refine rlM [0, 1, 2] [_, _, _] (a1h S e (o.a)) rfl rfl rfl ?_
  refine dc 3 (aI ?_ ?_)<;>intro u<;>try simp at u
  ·refine dv 5 ?_
   exact ⟨(⟨⟨_, _, S.s.count⟩, S.sends, S.outs⟩, o.c), ⟨by dsimp only, by exact Nat.le_succ _, by exact Nat.le_succ _, by exact (fun q h => .inl h), by show (0 : Int) ≤ o.c; omega, by show (o.c : Int) ≤ 8; omega⟩, [γ 0, _, _], rfl, rfl, x4x⟩
  refine dv 4 ?_
  exact ⟨(⟨⟨_, _, S.s.count⟩, S.sends, S.outs⟩, 0), ⟨by dsimp only, by exact Nat.le_succ _, by exact Nat.le_succ _, by exact (fun q h => .inl h), by show (0 : Int) ≤ 0; omega, by show (0 : Int) ≤ 8; omega⟩, [γ 0, _, _], rfl, rfl, x4x⟩
 refine dc 3 (aS ?_ ?_)<;>intro u<;>try simp at u
 ·refine dc 3 (aS ?_ ?_)<;>intro u<;>try simp at u
  ·refine dv 4 ?_
   exact ⟨(⟨⟨_, _, S.s.count⟩, S.sends, S.outs⟩, 0), ⟨by dsimp only, by exact Nat.le_succ _, by exact Nat.le_succ _, by exact (fun q h => .inl h), by show (0 : Int) ≤ 0; omega, by show (0 : Int) ≤ 8; omega⟩, [γ 0, _, _], rfl, rfl, x4x⟩
  refine dv 25 ?_
  refine a4i (n := S.outs.length) rfl a0c rfl rfl (List.length_map _) ?_
  refine dv 3 ?_
  refine rlM [0, 1, 2] [_, _, _] (a1h S e (o.a)) rfl rfl rfl ?_
  refine rlB v9v c4x ?_
  refine y5y (id := 6) a0c rfl v9v rfl rfl rfl rfl rfl rfl ?_
  refine y6y (zs := (S.outs ++ [(Ou.mk e.time e.to S.s.count (S.outs.length : Int) (if o.a = 0 then S.s.x else S.s.y))]).map q5q) rfl rfl a0c rfl v9v rfl rfl rfl rfl (by rfl) (u0u q5q S.outs (Ou.mk e.time e.to S.s.count (S.outs.length : Int) (if o.a = 0 then S.s.x else S.s.y))) (by (simp only [a0b, r5r, s1s, s3s, a0t, a3b, T141]; omega)) ?_
  refine dv 6 ?_
  exact ⟨(⟨⟨_, _, S.s.count⟩, S.sends, S.outs ++ [(Ou.mk e.time e.to S.s.count (S.outs.length : Int) (if o.a = 0 then S.s.x else S.s.y))]⟩, 0), ⟨by dsimp only, by exact Nat.le_succ _, by simp, by exact (fun q h => by rcases List.mem_append.1 h with h | h; exact .inl h; exact .inr (by rw [List.mem_singleton.1 h])), by show (0 : Int) ≤ 0; omega, by show (0 : Int) ≤ 8; omega⟩, [γ 0, _, _], rfl, rfl, x4x⟩
 refine dv 8 ?_
 refine u7u rfl rfl rfl (dc 1 (aS ?_ ?_))<;>intro u<;>try simp at u
 ·refine dv 4 ?_
  exact ⟨(⟨⟨_, _, S.s.count⟩, S.sends, S.outs⟩, 0), ⟨by dsimp only, by exact Nat.le_succ _, by exact Nat.le_succ _, by exact (fun q h => .inl h), by show (0 : Int) ≤ 0; omega, by show (0 : Int) ≤ 8; omega⟩, [γ 0, _, _], rfl, rfl, x4x⟩
 refine dv 13 ?_
 refine u7u rfl rfl rfl (dv 16 ?_)
 refine a4i (n := S.sends.length) rfl v6v rfl rfl (List.length_map _) ?_
 refine dv 5 ?_
 refine rlM [0, 1, 2] [_, _, _] (a1h S e (o.d)) rfl rfl rfl ?_
 refine rlB z4z a8g ?_
 refine y5y (id := 4) v6v rfl z4z rfl rfl rfl rfl rfl rfl ?_
 refine y6y (zs := (S.sends ++ [(Ev.mk (IntKind.i64.wrap (e.time + o.c)) o.a e.to S.s.count (S.sends.length : Int) o.b (if o.d = 0 then S.s.x else S.s.y))]).map z1z) rfl rfl v6v rfl z4z rfl rfl rfl rfl (by rfl) (u0u z1z S.sends (Ev.mk (IntKind.i64.wrap (e.time + o.c)) o.a e.to S.s.count (S.sends.length : Int) o.b (if o.d = 0 then S.s.x else S.s.y))) (by (simp only [a0b, r5r, s1s, s3s, a0t, a3b, T56]; omega)) ?_
 refine dv 6 ?_
 exact ⟨(⟨⟨_, _, S.s.count⟩, S.sends ++ [(Ev.mk (IntKind.i64.wrap (e.time + o.c)) o.a e.to S.s.count (S.sends.length : Int) o.b (if o.d = 0 then S.s.x else S.s.y))], S.outs⟩, 0), ⟨by dsimp only, by simp, by exact Nat.le_succ _, by exact (fun q h => .inl h), by show (0 : Int) ≤ 0; omega, by show (0 : Int) ≤ 8; omega⟩, [γ 0, _, _], rfl, rfl, x4x⟩
theorem c8a (a : Ap) (s : St) (e : Ev) (hb : ∀ r ∈ a.rules, r.ops.length ≤ 1048576) : MethE Tryz.prog 335 0 [.agg (b7q true a), .agg (a2b s), .agg (z1z e)] [] (ι := Rn) (fun S' => S'.sends.length ≤ 32 ∧ S'.outs.length ≤ 32 ∧ (∀ q ∈ S'.outs, q.time = e.time) ∧ (d1i a ∧ b7j s ∧ b6f e → S'.s.count = s.count + 1 ∨ S'.sends = [] ∧ S'.s.count = s.count)) (fun S' => []) (fun S' => .tup [.agg (a2b S'.s), a0m true S'.sends, r8r true S'.outs]) (fun S' => []) := by
 refine mE (ι := Rn) Tryz.f335 (fun S' => [.agg (a2b S'.s), a0m true S'.sends, r8r true S'.outs]) 0 12 fun γ => ?_
 refine dv 1 ?_
 refine y3y (id := 0) rfl rfl rfl (y3y (id := 1) rfl rfl rfl (y3y (id := 2) rfl rfl rfl (x3x (id := 3) a7q c8u rfl (dv 5 fun K K' => ?_))))
 refine rlB a5c b4g ?_
 refine rlB a5c b4g ?_
 refine rlB a5c b4g ?_
 refine w8w (id := 4) c5y rfl a5c rfl rfl rfl rfl (.val rfl rfl (.val rfl rfl (.val rfl rfl (.val rfl rfl .nil)))) rfl (r9r rfl) (r9r rfl) (r9r rfl) rfl rfl ?_
 refine b5i rfl rfl rfl (.ref rfl (e3f a) .nil) (a8r false (e8i a) (by intro x hx; simp only [e8i, List.mem_cons, List.not_mem_nil, or_false] at hx; rcases hx with rfl | rfl | rfl | rfl <;> first | exact hb | (intro r hr; cases hr))) (.pv _) ?_
 refine dc 2 (aS ?_ ?_)<;>intro hg2<;>try simp at hg2
 ·have fX : ¬ (d1i a ∧ b7j s ∧ b6f e) := fun h => f1u (a0p (by simpa using hg2)) h.1
  refine dv 10 ?_
  refine rlB a7q c8u ?_
  refine y1y (id := 5) v6v rfl z4z rfl (y1y (id := 6) a0c rfl v9v rfl (dv 3 ?_))
  refine r6r (f := z1z) (l := []) 7 rfl rfl (fun _ => rfl) ?_
  refine r6r (f := q5q) (l := []) 8 rfl rfl (fun _ => rfl) ?_
  refine dv 1 ?_
  exact ⟨⟨⟨0, 0, 0⟩, [], []⟩, ⟨Nat.zero_le _, Nat.zero_le _, fun q h => (by cases h), fun h => absurd h fX⟩, [], rfl, rfl, x4x⟩
 have fA : d1i a := f1t (a0o.1 (by simpa using hg2))
 refine dv 1 ?_
 refine x0x rfl rfl rfl (a6q ..) (dc 3 (aS ?_ ?_))<;>intro u<;>try simp at u
 ·have fX : ¬ (d1i a ∧ b7j s ∧ b6f e) := by (intro h; have h1 := h.2.1; simp_all; done)
  refine dv 5 ?_
  refine rlB a7q c8u ?_
  refine y1y (id := 5) v6v rfl z4z rfl (y1y (id := 6) a0c rfl v9v rfl (dv 3 ?_))
  refine r6r (f := z1z) (l := []) 7 rfl rfl (fun _ => rfl) ?_
  refine r6r (f := q5q) (l := []) 8 rfl rfl (fun _ => rfl) ?_
  refine dv 1 ?_
  exact ⟨⟨⟨0, 0, 0⟩, [], []⟩, ⟨Nat.zero_le _, Nat.zero_le _, fun q h => (by cases h), fun h => absurd h fX⟩, [], rfl, rfl, x4x⟩
 refine dv 1 ?_
 refine x0x rfl rfl rfl (a6r ..) (dc 2 (aI ?_ ?_))<;>intro u<;>try simp at u
 ·have fX : ¬ (d1i a ∧ b7j s ∧ b6f e) := by (intro h; have h1 := h.2.2; have h2 := h.2.1; simp_all; done)
  refine dv 1 ?_
  refine rlB a7q c8u ?_
  refine y1y (id := 5) v6v rfl z4z rfl (y1y (id := 6) a0c rfl v9v rfl (dv 3 ?_))
  refine r6r (f := z1z) (l := []) 7 rfl rfl (fun _ => rfl) ?_
  refine r6r (f := q5q) (l := []) 8 rfl rfl (fun _ => rfl) ?_
  refine dv 1 ?_
  exact ⟨⟨⟨0, 0, 0⟩, [], []⟩, ⟨Nat.zero_le _, Nat.zero_le _, fun q h => (by cases h), fun h => absurd h fX⟩, [], rfl, rfl, x4x⟩
 refine dc 6 (fun K K' => aI ?_ ?_)<;>intro u<;>try simp at u
 ·refine dv 2 ?_
  refine y1y (id := 7) v6v rfl z4z rfl (y1y (id := 8) a0c rfl v9v rfl (dv 3 ?_))
  refine r6r (f := z1z) (l := []) 7 rfl rfl (fun _ => rfl) ?_
  refine r6r (f := q5q) (l := []) 8 rfl rfl (fun _ => rfl) ?_
  refine dv 1 ?_
  exact ⟨⟨s, [], []⟩, ⟨Nat.zero_le _, Nat.zero_le _, fun q h => (by cases h), fun _ => .inr ⟨rfl, rfl⟩⟩, [], rfl, rfl, x4x⟩
 refine dv 4 ?_
 refine y1y (id := 9) v6v rfl z4z rfl (y1y (id := 10) a0c rfl v9v rfl (rlB e7f f3b ?_))
 refine y3y (id := 11) rfl rfl rfl (dv 5 fun K K' => ?_)
 refine x5x (ι := Rn × Nat) (fun p γ1 => [(10, pI (p.2 : Int))]) (fun p γ1 => [(9, ((γ1 9), .row 56 7 ((p.1.sends).map z1z))), (10, ((γ1 10), .row 141 5 ((p.1.outs).map q5q))), (11, ((0 + 1), .box 362 [pI p.1.s.x, pI p.1.s.y, pI p.1.s.count, pI e.time, pI e.to, pI e.from', pI e.count, pI e.n, pI e.kind, pI e.arg, .ref 9 (γ1 9), .ref 10 (γ1 10)]))]) (fun p => p.2 ≤ a.rules.length ∧ p.1.sends.length ≤ 8 * p.2 ∧ p.1.outs.length ≤ 8 * p.2 ∧ (∀ q ∈ p.1.outs, q.time = e.time) ∧ p.1.s.count = s.count) (fun p => a.rules.length - p.2) (r2r [3, 5, 6, 9] rfl) (a1p [0, 1, 2, 3, 4, 5, 6, 7, 8] rfl) (⟨s, [], []⟩, 0) ⟨Nat.zero_le _, Nat.zero_le _, Nat.zero_le _, fun q h => (by cases h), rfl⟩ [0, 0, 0, 0, 0, 0, 0, 0, 0, _, _] x6x (HE.row rfl (by rfl) (HE.row rfl (by rfl) (HE.box rfl (by rfl) HE.nil))) rfl fun p γ1 hi => ?_
 obtain ⟨S, i⟩ := p
 obtain ⟨h1, h2, h3, h4, hc⟩ := hi
 dsimp only at h1 h2 h3 h4 hc ⊢
 refine dc 7 (fun K K' => aS ?_ ?_)<;>intro u<;>try simp at u
 ·have ha4 := fA.1
  refine dv 8 ?_
  refine u7u rfl rfl rfl (dv 20 ?_)
  refine r6r 7 rfl rfl (fun _ => rfl) ?_
  refine r6r 8 rfl rfl (fun _ => rfl) ?_
  refine dv 1 ?_
  exact ⟨⟨⟨S.s.x, S.s.y, IntKind.i64.wrap (S.s.count + 1)⟩, S.sends, S.outs⟩, ⟨by show S.sends.length ≤ 32; omega, by show S.outs.length ≤ 32; omega, h4, fun h => .inl (by show IntKind.i64.wrap (S.s.count + 1) = s.count + 1; rw [hc]; exact x9x (by have := h.2.1; unfold b7j at this; omega) (by have := h.2.1; unfold b7j at this; omega))⟩, [], rfl, rfl, x4x⟩
 obtain ⟨r, hr⟩ := gE a.rules i
 have hro := fA.2 i r hr
 have hr8 := hro.2.1.2.1
 have ha4 := fA.1
 refine dc 14 (fun K K' K K' => aI ?_ ?_)<;>intro u<;>try simp at u
 ·refine dv 3 ?_
  refine x7x (b := 1) rfl rfl (by omega) (dv 1 ?_)
  exact ⟨(S, i + 1), ⟨(by exact ⟨by show i + 1 ≤ _; omega, by show S.sends.length ≤ 8 * (i + 1); omega, by show S.outs.length ≤ 8 * (i + 1); omega, h4, hc⟩), (by show a.rules.length - (i + 1) < a.rules.length - i; omega)⟩, [0, 0, 0, 0, 0, 0, 0, 0, 0, _, _], x6x, x6x, x4x, x4x, rfl⟩
 refine dv 12 ?_
 refine x5x (ι := Rn × Nat × Nat) (fun p γ2 => [(12, pI (p.2.1 : Int))]) (fun p γ2 => [(9, ((γ2 9), .row 56 7 ((p.1.sends).map z1z))), (10, ((γ2 10), .row 141 5 ((p.1.outs).map q5q))), (11, ((0 + 1), .box 362 [pI p.1.s.x, pI p.1.s.y, pI p.1.s.count, pI e.time, pI e.to, pI e.from', pI e.count, pI e.n, pI e.kind, pI e.arg, .ref 9 (γ2 9), .ref 10 (γ2 10)]))]) (fun p => p.2.1 ≤ 20 ∧ p.2.2 ≤ p.2.1 ∧ p.2.2 ≤ 8 ∧ p.1.sends.length ≤ 8 * i + p.2.2 ∧ p.1.outs.length ≤ 8 * i + p.2.2 ∧ (∀ q ∈ p.1.outs, q.time = e.time) ∧ p.1.s.count = s.count) (fun p => 20 - p.2.1) (r2r [3, 5, 6, 9, 10, 11] rfl) (a1p [0, 1, 2, 3, 4, 5, 6, 7, 8] rfl) (S, 0, 0) ⟨Nat.zero_le _, Nat.le_refl _, Nat.zero_le _, h2, h3, h4, hc⟩ [0, 0, 0, 0, 0, 0, 0, 0, 0, _, _] x6x x4x rfl fun p γ2 hi => ?_
 obtain ⟨S, k, m⟩ := p
 obtain ⟨k1, k2, k3, k3a, k4, k5, kc⟩ := hi
 dsimp only at k1 k2 k3 k3a k4 k5 kc ⊢
 refine dc 6 (fun K K' => aS ?_ ?_)<;>intro u<;>try simp at u
 ·refine dv 3 ?_
  refine x7x (b := 1) rfl rfl (by omega) (dv 1 ?_)
  exact ⟨(S, i + 1), ⟨(by exact ⟨by show i + 1 ≤ _; omega, by show S.sends.length ≤ 8 * (i + 1); omega, by show S.outs.length ≤ 8 * (i + 1); omega, k5, kc⟩), (by show a.rules.length - (i + 1) < a.rules.length - i; omega)⟩, [0, 0, 0, 0, 0, 0, 0, 0, 0, _, _], x6x, x6x, x4x, x4x, rfl⟩
 obtain ⟨o, ho⟩ := gE r.ops k
 have hok := hro.2.1.1 o (List.mem_of_getElem? ho)
 refine dv 3 fun K K' => ?_
 refine a7c fun B X0 w0 => ?_
 refine txR 6 rfl rfl (dv 5 ?_)
 refine v0v (out := .agg (b2o o)) rfl a0z rfl ?_
 refine txM [11, 9, 10] [_, _, _] (c2u S e o hok (by omega) (by omega)) rfl rfl rfl rfl fun j hj => ?_
 obtain ⟨q0, q1, q2, q3, q4, q5⟩ := hj
 obtain ⟨sk, hsk⟩ : ∃ sk : Nat, j.2 = (sk : Int) := ⟨j.2.toNat, by omega⟩
 rw [hsk]
 refine txR 2 rfl rfl (x7x rfl rfl (by omega) (dv 1 ?_))
 refine z6z rfl (dv 2 ?_)
 refine x7x (b := 1) rfl rfl (by omega) (dv 1 ?_)
 exact ⟨(j.1, k + sk + 1, m + 1), ⟨(by exact ⟨by show k + sk + 1 ≤ 20; omega, by show m + 1 ≤ k + sk + 1; omega, by show m + 1 ≤ 8; omega, by show j.1.sends.length ≤ 8 * i + (m + 1); omega, by show j.1.outs.length ≤ 8 * i + (m + 1); omega, fun q hq => (q3 q hq).elim (k5 q) (fun h => h), by show j.1.s.count = s.count; omega⟩), (by show 20 - (k + sk + 1) < 20 - k; omega)⟩, [0, 0, 0, 0, 0, 0, 0, 0, 0, _, _], x6x, x6x, x4x, x4x, rfl⟩
end
section
theorem c8b (c : Bool) (p : Pa) (proc : Int) : a0j Tryz.prog 219 [.agg (a2v c p), .pv (.int .i64 proc)] (.pv (.bool (b6g proc p))) := by
 refine pX Tryz.f219 [.pv (.bool (b6g proc p))] 1 ?_
 refine dv 1 ?_
 refine y3y (id := 0) rfl rfl rfl (dv 3 ?_)
 refine y9y (out := .agg (z1z p.ev)) rfl z4z rfl rfl ?_
 refine x0x rfl rfl rfl (b4q ..) (dc 1 (aS ?_ ?_))<;>intro h<;>try simp at h
 ·refine dv 22 ?_
  refine x2x rfl ?_ rfl
  simp [b6g, *]
 refine dc 7 (aS ?_ ?_)<;>intro h<;>try simp at h
 ·refine dv 15 ?_
  refine x2x rfl ?_ rfl
  simp [b6g, *]
 refine dv 1 ?_
 refine y9y (out := .agg (a2b p.after)) rfl a7q rfl rfl ?_
 refine dv 0 ?_
 refine x0x rfl rfl rfl (b4p ..) (dc 2 (aS ?_ ?_))<;>intro h<;>try simp at h
 ·refine dv 10 ?_
  refine x2x rfl ?_ rfl
  simp [b6g, *]
 refine dv 2 ?_
 refine x0x rfl rfl rfl (a5j ..) (dc 2 (aS ?_ ?_))<;>intro h<;>try simp at h
 ·refine dv 5 ?_
  refine x2x rfl ?_ rfl
  simp [b6g, *]
 refine dv 2 ?_
 refine x0x rfl rfl rfl (b0w ..) (dv 3 ?_)
 refine x2x rfl ?_ rfl
 simp [b6g, *]
theorem b9x (c : Bool) (p : Pa) (proc : Int) : a0j Tryz.prog 120 [.agg (a2v c p), .pv (.int .i64 proc)] (.pv (.bool (b6g proc p))) := by
 refine pX Tryz.f120 [.pv (.bool (b6g proc p))] 1 ?_
 refine dv 1 ?_
 refine y3y (id := 0) rfl rfl rfl (dv 3 ?_)
 refine y9y (out := .agg (z1z p.ev)) rfl z4z rfl rfl ?_
 refine x0x rfl rfl rfl (a6r ..) (dc 1 (aS ?_ ?_))<;>intro h<;>try simp at h
 ·refine dv 22 ?_
  refine x2x rfl ?_ rfl
  simp [b6g, *]
 refine dc 7 (aS ?_ ?_)<;>intro h<;>try simp at h
 ·refine dv 15 ?_
  refine x2x rfl ?_ rfl
  simp [b6g, *]
 refine dv 1 ?_
 refine y9y (out := .agg (a2b p.after)) rfl a7q rfl rfl ?_
 refine dv 0 ?_
 refine x0x rfl rfl rfl (a6q ..) (dc 2 (aS ?_ ?_))<;>intro h<;>try simp at h
 ·refine dv 10 ?_
  refine x2x rfl ?_ rfl
  simp [b6g, *]
 refine dv 2 ?_
 refine x0x rfl rfl rfl (a3m ..) (dc 2 (aS ?_ ?_))<;>intro h<;>try simp at h
 ·refine dv 5 ?_
  refine x2x rfl ?_ rfl
  simp [b6g, *]
 refine dv 2 ?_
 refine x0x rfl rfl rfl (a7g ..) (dv 3 ?_)
 refine x2x rfl ?_ rfl
 simp [b6g, *]
theorem a3q  : a0j Tryz.prog 119 [] (.pv (.int .i64 100)) := by
 refine pX Tryz.f119 [.pv (.int .i64 100)] 0 ?_
 refine dv 5 ?_
 exact x2x rfl rfl rfl
theorem c8d (c : Bool) (l : La) : a0j Tryz.prog 113 [.agg (r4r c l)] (.pv (.bool (a5n l))) := by
 refine pX Tryz.f113 [.pv (.bool (a5n l))] 2 ?_
 refine dv 1 ?_
 refine y3y (id := 0) rfl rfl rfl (dv 5 fun K K' => ?_)
 refine x0x rfl rfl rfl (a7e ..) (dc 2 (aS ?_ ?_))<;>intro hg2<;>try simp at hg2
 ·have hn1 : ¬ (0 ≤ l.proc ∧ l.proc ≤ 3) := by omega
  refine dv 11 ?_
  try have hn3 : ¬ l.done.length ≤ 100 := by omega
  refine dv 3 ?_
  refine x2x rfl ?_ rfl
  exact congrArg (fun b : Bool => [AV.pv (.bool b)]) (e7s hn1).symm
 have hc1 : 0 ≤ l.proc ∧ l.proc ≤ 3 := hg2
 refine dv 1 ?_
 refine y9y (out := .agg (a2b l.base)) rfl a7q rfl rfl ?_
 refine dv 0 ?_
 refine x0x rfl rfl rfl (b4p ..) (dc 3 (aS ?_ ?_))<;>intro hg3<;>try simp at hg3
 ·have hn2 : ¬ b7j l.base := hg3
  refine dv 5 ?_
  try have hn3 : ¬ l.done.length ≤ 100 := by omega
  refine dv 3 ?_
  refine x2x rfl ?_ rfl
  exact congrArg (fun b : Bool => [AV.pv (.bool b)]) (e7t hn2).symm
 have hc2 : b7j l.base := hg3
 refine dc 5 (aI ?_ ?_)<;>intro h<;>try simp at h
 ·try have hn3 : ¬ l.done.length ≤ 100 := by omega
  refine dv 3 ?_
  refine x2x rfl ?_ rfl
  exact congrArg (fun b : Bool => [AV.pv (.bool b)]) (e7u hn3).symm
 have hc3 : l.done.length ≤ 100 := by omega
 refine dv 8 fun K K' => ?_
 refine x5x (ι := Nat) (fun i γ1 => [(24, pI (i : Int))]) (fun i γ1 => [(1, ((γ1 1), .dead))]) (fun i => i ≤ l.done.length ∧ a5n l = a9f (b6g l.proc) e7r (b1o l.done i) (l.done.drop i)) (fun i => l.done.length - i) (r2r [1, 22, 23] rfl) (w9w 0 rfl HE.nil) 0 ⟨by omega, c6u hc1 hc2 hc3⟩ [0, _] x6x x4x rfl fun i γ1 hi => ?_
 obtain ⟨h1, h2⟩ := hi
 refine dc 3 (fun K K' => aS ?_ ?_)<;>intro h<;>try simp at h
 ·obtain rfl : i = l.done.length := by omega
  rw [List.drop_length] at h2
  refine dv 4 ?_
  refine x2x rfl ?_ rfl
  exact congrArg (fun b : Bool => [AV.pv (.bool b)]) h2.symm
 obtain ⟨p, hp⟩ := gE l.done i
 rw [p2p hp] at h2
 refine dv 7 fun K K' => ?_
 refine x3x (id := 1) a6m c3q rfl (dv 6 ?_)
 refine x0x rfl rfl rfl (c8b ..) (dc 2 (aS ?_ ?_))<;>intro hg9<;>try simp at hg9
 ·have hbad : b6g l.proc p = false := by simpa using hg9
  refine dv 19 ?_
  refine x2x rfl ?_ rfl
  exact congrArg (fun b : Bool => [AV.pv (.bool b)]) (h2.trans (a5x _ _ hbad)).symm
 have hok : b6g l.proc p = true := by simpa using hg9
 refine dc 3 (aS ?_ ?_)<;>intro h<;>try simp at h
 ·have hi0 : i = 0 := by omega
  have hlast : b1o l.done i = none := by rw [hi0]; rfl
  rw [hlast] at h2
  refine dv 15 ?_
  refine x7x (b := 1) rfl rfl (by omega) (dv 1 ?_)
  exact ⟨i + 1, ⟨⟨by omega, by rw [h2]; show _ = a9f (b6g l.proc) e7r l.done[i]? _; rw [hp]; exact a7n _ _ hok⟩, by omega⟩, [0, _], x6x, x6x, x4x, x4x, rfl⟩
 have hi0 : 0 < i := by omega
 obtain ⟨b, hb⟩ := gE l.done (i - 1)
 have hlast : b1o l.done i = some b := by obtain ⟨j, rfl⟩ : ∃ j, i = j + 1 := ⟨i - 1, by omega⟩; exact hb
 rw [hlast] at h2
 refine dv 3 ?_
 refine r1r (b := 1) rfl rfl (by omega) (by omega) (dv 2 ?_)
 refine v0v (out := .agg (z1z b.ev)) rfl z4z rfl ?_
 refine dv 1 ?_
 refine y9y (out := .agg (z1z p.ev)) rfl z4z rfl rfl ?_
 refine dv 0 ?_
 refine x0x rfl rfl rfl (b1g ..) (dc 3 (aS ?_ ?_))<;>intro hc11<;>try simp at hc11
 ·try have hlt := hc11
  refine dv 2 ?_
  refine x7x (b := 1) rfl rfl (by omega) (dv 1 ?_)
  exact ⟨i + 1, ⟨⟨by omega, by rw [h2]; show _ = a9f (b6g l.proc) e7r l.done[i]? _; rw [hp]; exact a9s _ _ hok hlt⟩, by omega⟩, [0, _], x6x, x6x, x4x, x4x, rfl⟩
 try have hlt := hc11
 refine dv 3 ?_
 refine x2x rfl ?_ rfl
 exact congrArg (fun b : Bool => [AV.pv (.bool b)]) (h2.trans (b8s _ _ hlt)).symm
theorem a3r (c : Bool) (l : La) : a0j Tryz.prog 32 [.agg (r4r c l)] (.pv (.bool (a5n l))) := by
 refine pX Tryz.f32 [.pv (.bool (a5n l))] 1 ?_
 refine dv 1 ?_
 refine y3y (id := 0) rfl rfl rfl (dv 5 fun K K' => ?_)
 refine x0x rfl rfl rfl (a3p ..) (dc 2 (aS ?_ ?_))<;>intro hg2<;>try simp at hg2
 ·have hn1 : ¬ (0 ≤ l.proc ∧ l.proc ≤ 3) := by omega
  refine dv 12 ?_
  try have hn3 : ¬ l.done.length ≤ 100 := by omega
  refine dv 3 ?_
  refine x2x rfl ?_ rfl
  exact congrArg (fun b : Bool => [AV.pv (.bool b)]) (e7s hn1).symm
 have hc1 : 0 ≤ l.proc ∧ l.proc ≤ 3 := hg2
 refine dv 1 ?_
 refine y9y (out := .agg (a2b l.base)) rfl a7q rfl rfl ?_
 refine dv 0 ?_
 refine x0x rfl rfl rfl (a6q ..) (dc 3 (aS ?_ ?_))<;>intro hg3<;>try simp at hg3
 ·have hn2 : ¬ b7j l.base := hg3
  refine dv 6 ?_
  try have hn3 : ¬ l.done.length ≤ 100 := by omega
  refine dv 3 ?_
  refine x2x rfl ?_ rfl
  exact congrArg (fun b : Bool => [AV.pv (.bool b)]) (e7t hn2).symm
 have hc2 : b7j l.base := hg3
 refine dv 3 ?_
 refine x0x rfl rfl rfl (a3q ..) (dc 2 (aI ?_ ?_))<;>intro h<;>try simp at h
 ·try have hn3 : ¬ l.done.length ≤ 100 := by omega
  refine dv 3 ?_
  refine x2x rfl ?_ rfl
  exact congrArg (fun b : Bool => [AV.pv (.bool b)]) (e7u hn3).symm
 have hc3 : l.done.length ≤ 100 := by omega
 refine dv 5 fun K K' => ?_
 refine x5x (ι := Nat) (fun i γ1 => [(3, pI (i : Int))]) (fun i γ1 => []) (fun i => i ≤ l.done.length ∧ a5n l = a9f (b6g l.proc) e7r (b1o l.done i) (l.done.drop i)) (fun i => l.done.length - i) (x8x 1 rfl Cov.nil) (w9w 0 rfl HE.nil) 0 ⟨by omega, c6u hc1 hc2 hc3⟩ [] x6x x4x rfl fun i γ1 hi => ?_
 obtain ⟨h1, h2⟩ := hi
 refine dc 7 (fun K K' => aS ?_ ?_)<;>intro h<;>try simp at h
 ·obtain rfl : i = l.done.length := by omega
  rw [List.drop_length] at h2
  refine dv 4 ?_
  refine x2x rfl ?_ rfl
  exact congrArg (fun b : Bool => [AV.pv (.bool b)]) h2.symm
 obtain ⟨p, hp⟩ := gE l.done i
 rw [p2p hp] at h2
 refine dv 11 fun K K' => ?_
 refine x0x rfl rfl rfl (b9x ..) (dc 2 (aS ?_ ?_))<;>intro hg9<;>try simp at hg9
 ·have hbad : b6g l.proc p = false := by simpa using hg9
  refine dv 23 ?_
  refine x2x rfl ?_ rfl
  exact congrArg (fun b : Bool => [AV.pv (.bool b)]) (h2.trans (a5x _ _ hbad)).symm
 have hok : b6g l.proc p = true := by simpa using hg9
 refine dc 3 (aS ?_ ?_)<;>intro h<;>try simp at h
 ·have hi0 : i = 0 := by omega
  have hlast : b1o l.done i = none := by rw [hi0]; rfl
  rw [hlast] at h2
  refine dv 20 ?_
  refine x7x (b := 1) rfl rfl (by omega) (dv 1 ?_)
  exact ⟨i + 1, ⟨⟨by omega, by rw [h2]; show _ = a9f (b6g l.proc) e7r l.done[i]? _; rw [hp]; exact a7n _ _ hok⟩, by omega⟩, [], x6x, x6x, x4x, x4x, rfl⟩
 have hi0 : 0 < i := by omega
 obtain ⟨b, hb⟩ := gE l.done (i - 1)
 have hlast : b1o l.done i = some b := by obtain ⟨j, rfl⟩ : ∃ j, i = j + 1 := ⟨i - 1, by omega⟩; exact hb
 rw [hlast] at h2
 refine dv 3 ?_
 refine r1r (b := 1) rfl rfl (by omega) (by omega) (dv 2 ?_)
 refine v0v (out := .agg (z1z b.ev)) rfl z4z rfl ?_
 refine dv 5 ?_
 refine v0v (out := .agg (z1z p.ev)) rfl z4z rfl ?_
 refine dv 0 ?_
 refine x0x rfl rfl rfl (a6s ..) (dc 3 (aS ?_ ?_))<;>intro hc11<;>try simp at hc11
 ·try have hlt := hc11
  refine dv 3 ?_
  refine x7x (b := 1) rfl rfl (by omega) (dv 1 ?_)
  exact ⟨i + 1, ⟨⟨by omega, by rw [h2]; show _ = a9f (b6g l.proc) e7r l.done[i]? _; rw [hp]; exact a9s _ _ hok hlt⟩, by omega⟩, [], x6x, x6x, x4x, x4x, rfl⟩
 try have hlt := hc11
 refine dv 3 ?_
 refine x2x rfl ?_ rfl
 exact congrArg (fun b : Bool => [AV.pv (.bool b)]) (h2.trans (b8s _ _ hlt)).symm
end
section
theorem a1i (c : Bool) (l : List Ev) (hl : l.length ≤ 10000000) : a0j Tryz.prog 111 [a0m c l] (a0m true (u2u l)) := by
 refine pX Tryz.f111 [a0m true (u2u l)] 3 ?_
 refine dv 3 ?_
 refine y1y (id := 0) v6v rfl z4z rfl (dv 5 fun K K' => ?_)
 refine x5x (ι := Nat) (fun i γ1 => [(3, .ref 0 (γ1 0)), (4, pI (i : Int))]) (fun i γ1 => [(0, ((γ1 0), .row 56 7 ((u2u (l.take i)).map z1z))), (1, ((γ1 1), .dead)), (2, ((γ1 2), .dead))]) (fun i => i ≤ l.length) (fun i => l.length - i) (x8x 0 rfl Cov.nil) HE.nil 0 (by omega) [_, _, _] x6x (HE.row rfl (by rw [List.take_zero]; rfl) (HE.kill rfl (HE.kill rfl HE.nil))) rfl fun i γ1 hi => ?_
 refine dc 6 (fun K K' => aS ?_ ?_)<;>intro o<;>try simp at o
 ·obtain rfl : i = l.length := by omega
  refine dv 5 ?_
  refine a4j rfl rfl (fun _ => rfl) ?_
  rw [List.take_length]
 obtain ⟨x, hx⟩ := gE l i
 have hol : (u2u (l.take i)).length ≤ 10000000 := Nat.le_trans (a3y _) (by rw [List.length_take]; omega)
 have hss := b2h (l.take i)
 refine dv 7 fun K K' => ?_
 refine q8q (ι := Nat) (fun k γ2 => [(5, pI (k : Int))]) (fun k γ2 => []) (fun k => k ≤ (u2u (l.take i)).length ∧ (∀ (j : Nat) y, k ≤ j → (u2u (l.take i))[j]? = some y → a2g x y = true) ∧ (∀ y, 0 < k → (u2u (l.take i))[k - 1]? = some y → a2g x y = false)) (r2r [0, 3, 4] rfl) (a1p [0, 1, 2] rfl) ?_ fun k γ2 hi => ?_
 ·refine dv 1 ?_
  refine x5x (ι := Nat) (fun k γ3 => [(5, pI (k : Int))]) (fun k γ3 => []) (fun k => k ≤ (u2u (l.take i)).length ∧ (∀ (j : Nat) y, k ≤ j → (u2u (l.take i))[j]? = some y → a2g x y = true)) (fun k => k) (r2r [0, 3, 4] rfl) (a1p [0, 1, 2] rfl) (u2u (l.take i)).length ⟨Nat.le_refl _, fun j y hj hy => by have := (List.getElem?_eq_some_iff.1 hy).1; omega⟩ [] x6x x4x rfl fun k γ3 hi => ?_
  obtain ⟨k1, k2⟩ := hi
  refine dc 5 (fun K K' => aS ?_ ?_)<;>intro o<;>try simp at o
  ·have k0 : k = 0 := by omega
   refine dv 12 ?_
   exact ⟨k, ⟨k1, k2, fun y2 h0 h2 => by omega⟩, [], x6x, x6x, x4x, x4x, rfl⟩
  have k0 : 0 < k := by omega
  obtain ⟨y, hy⟩ := gE (u2u (l.take i)) (k - 1)
  refine dv 6 ?_
  refine r1r (b := 1) rfl rfl (by omega) (by omega) (dv 0 ?_)
  refine z0z (j := k - 1) rfl rfl v6v rfl z4z rfl rfl (by omega) ?_
  refine dv 1 ?_
  refine x0x rfl rfl rfl (a6s ..) (dc 1 (aS ?_ ?_))<;>intro hc7<;>try simp at hc7
  ·try have hlt := hc7
   refine dv 1 ?_
   exact ⟨k, ⟨k1, k2, fun y2 h0 h2 => by (rw [hy] at h2; cases h2; exact hlt)⟩, [], x6x, x6x, x4x, x4x, rfl⟩
  try have hlt := hc7
  refine dv 4 ?_
  refine r1r (b := 1) rfl rfl (by omega) (by omega) (dv 1 ?_)
  exact ⟨k - 1, ⟨⟨by omega, fun j y2 hj hy2 => by by_cases hjk : j = k - 1; (subst hjk; rw [hy] at hy2; cases hy2; exact hlt); exact k2 j y2 (by omega) hy2⟩, by omega⟩, [], x6x, x6x, x4x, x4x, rfl⟩
 ·try dsimp only [b2t, b2u]
  obtain ⟨c1, c2, c3⟩ := hi
  refine dc 5 (fun K K' => aS ?_ ?_)<;>intro o<;>try simp at o
  ·have k0 : k = 0 := by omega
   refine dv 11 ?_
   have hin : u2u (l.take (i + 1)) = (u2u (l.take i)).take k ++ x :: (u2u (l.take i)).drop k := by rw [b5n hx]; exact e0o c6t hss c2 (fun y2 h0 h2 => ⟨c3 y2 h0 h2, by omega⟩) c1
   refine dv 7 ?_
   refine y5y (id := 1) v6v rfl z4z rfl rfl rfl rfl rfl rfl ?_
   refine y6y (zs := (u2u (l.take i) ++ [x]).map z1z) rfl rfl v6v rfl z4z rfl rfl rfl rfl (by rfl) (u0u _ _ _) (by have hb56 : T56.bytes = 56 := rfl; rw [List.length_map, hb56]; simp only [r5r, s1s, s3s]; omega) ?_
   refine dv 5 fun K K' => ?_
   refine r1r (b := 1) rfl rfl (by (simp; done)) (by (simp; omega)) ?_
   refine dv 2 ?_
   refine x5x (ι := Nat × Ev) (fun q γ5 => [(6, pI (q.1 : Int))]) (fun q γ5 => [(0, ((γ1 0 + 1), .row 56 7 (((u2u (l.take i)).take q.1 ++ q.2 :: (u2u (l.take i)).drop q.1).map z1z)))]) (fun q => k ≤ q.1 ∧ q.1 ≤ (u2u (l.take i)).length) (fun q => q.1) (r2r [0, 3, 4, 5] rfl) (a1p [1, 2] rfl) ((u2u (l.take i)).length, x) ⟨c1, Nat.le_refl _⟩ [] (Cov.cons' (t := 6) rfl (by simp) Cov.nil) (HE.row rfl (by rw [List.take_length, List.drop_length]) HE.nil) rfl fun q γ5 hi => ?_
   obtain ⟨m, u⟩ := q
   obtain ⟨m1, m2⟩ := hi
   dsimp only at m1 m2 ⊢
   refine dc 5 (fun K K' => aS ?_ ?_)<;>intro o<;>try simp at o
   ·obtain rfl : k = m := by omega
    refine b1w (hkL (by assumption) ?_)
    refine exG (s5s rfl (s5s rfl (s5s rfl (s5s rfl (b1z rfl rfl v6v rfl z4z rfl hx (b1y rfl z4z rfl rfl ?_))))))
    refine z0z (j := k) rfl rfl v6v rfl z4z rfl rfl (z2z (c9y c1)) ?_
    refine v5v (el' := x) rfl rfl z4z rfl rfl rfl (c9y c1) rfl (a5w _) rfl rfl ?_
    refine dv 2 ?_
    refine x7x (b := 1) rfl rfl (by omega) (dv 1 ?_)
    exact ⟨i + 1, ⟨by omega, by omega⟩, [_, _, _], x6x, x6x, (HE.row rfl (by rw [hin, e0p c1]) (HE.kill rfl (HE.kill rfl HE.nil))), x4x, rfl⟩
   obtain ⟨z, hz⟩ := gE (u2u (l.take i)) (m - 1)
   refine dv 8 fun K K' => ?_
   refine r1r (b := 1) rfl rfl (by omega) (by omega) ?_
   refine z0z (j := m - 1) rfl rfl v6v rfl z4z rfl rfl (z2z (d4n m2 (by omega) hz)) ?_
   refine s6s rfl z4z rfl (d4n m2 (by omega) hz) rfl rfl ?_
   refine z0z (j := m) rfl rfl v6v rfl z4z rfl rfl (z2z (c9y m2)) ?_
   refine v5v (el' := z) rfl rfl z4z rfl rfl rfl (c9y m2) rfl (a5w _) rfl rfl ?_
   refine dv 2 ?_
   refine r1r (b := 1) rfl rfl (by omega) (by omega) (dv 1 ?_)
   exact ⟨(m - 1, z), ⟨⟨by dsimp only; omega, by dsimp only; omega⟩, (by dsimp only; omega)⟩, [], x6x, x6x, (HE.row rfl (by rw [e7v m2 (by omega) hz]) HE.nil), x4x, rfl⟩
  have k0 : 0 < k := by omega
  obtain ⟨y, hy⟩ := gE (u2u (l.take i)) (k - 1)
  refine dv 2 ?_
  refine r1r (b := 1) rfl rfl (by omega) (by omega) (dv 0 ?_)
  refine z0z (j := k - 1) rfl rfl v6v rfl z4z rfl rfl (by omega) ?_
  refine dv 5 ?_
  refine b8k rfl rfl (by intro a c h; cases h) (.inl rfl) (f2c _ _ _ _) ?_
  refine dc 1 (aI ?_ ?_)<;>intro hc11<;>try simp at hc11
  ·have hyx : y = x := by simpa [a6u] using hc11
   have hsk : u2u (l.take (i + 1)) = u2u (l.take i) := by rw [b5n hx]; exact e9v c6t hss (List.mem_of_getElem? (hyx ▸ hy))
   refine dv 3 ?_
   refine x7x (b := 1) rfl rfl (by omega) (dv 1 ?_)
   exact ⟨i + 1, ⟨by omega, by omega⟩, [_, _, _], x6x, x6x, (HE.row rfl (by rw [hsk]) (HE.kill rfl (HE.kill rfl HE.nil))), x4x, rfl⟩
  try have hyx : ¬ y = x := by simpa [a6u] using hc11
  have hin : u2u (l.take (i + 1)) = (u2u (l.take i)).take k ++ x :: (u2u (l.take i)).drop k := by rw [b5n hx]; exact e0o c6t hss c2 (fun y2 h0 h2 => ⟨c3 y2 h0 h2, by (rw [hy] at h2; cases h2; exact hyx)⟩) c1
  refine dv 7 ?_
  refine y5y (id := 1) v6v rfl z4z rfl rfl rfl rfl rfl rfl ?_
  refine y6y (zs := (u2u (l.take i) ++ [x]).map z1z) rfl rfl v6v rfl z4z rfl rfl rfl rfl (by rfl) (u0u _ _ _) (by have hb56 : T56.bytes = 56 := rfl; rw [List.length_map, hb56]; simp only [r5r, s1s, s3s]; omega) ?_
  refine dv 5 fun K K' => ?_
  refine r1r (b := 1) rfl rfl (by (simp; done)) (by (simp; omega)) ?_
  refine dv 2 ?_
  refine x5x (ι := Nat × Ev) (fun q γ4 => [(6, pI (q.1 : Int))]) (fun q γ4 => [(0, ((γ1 0 + 1), .row 56 7 (((u2u (l.take i)).take q.1 ++ q.2 :: (u2u (l.take i)).drop q.1).map z1z)))]) (fun q => k ≤ q.1 ∧ q.1 ≤ (u2u (l.take i)).length) (fun q => q.1) (r2r [0, 3, 4, 5] rfl) (a1p [1, 2] rfl) ((u2u (l.take i)).length, x) ⟨c1, Nat.le_refl _⟩ [] (Cov.cons' (t := 6) rfl (by simp) Cov.nil) (HE.row rfl (by rw [List.take_length, List.drop_length]) HE.nil) rfl fun q γ4 hi => ?_
  obtain ⟨m, u⟩ := q
  obtain ⟨m1, m2⟩ := hi
  dsimp only at m1 m2 ⊢
  refine dc 5 (fun K K' => aS ?_ ?_)<;>intro o<;>try simp at o
  ·obtain rfl : k = m := by omega
   refine b1w (hkL (by assumption) ?_)
   refine exG (s5s rfl (s5s rfl (s5s rfl (s5s rfl (b1z rfl rfl v6v rfl z4z rfl hx (b1y rfl z4z rfl rfl ?_))))))
   refine z0z (j := k) rfl rfl v6v rfl z4z rfl rfl (z2z (c9y c1)) ?_
   refine v5v (el' := x) rfl rfl z4z rfl rfl rfl (c9y c1) rfl (a5w _) rfl rfl ?_
   refine dv 2 ?_
   refine x7x (b := 1) rfl rfl (by omega) (dv 1 ?_)
   exact ⟨i + 1, ⟨by omega, by omega⟩, [_, _, _], x6x, x6x, (HE.row rfl (by rw [hin, e0p c1]) (HE.kill rfl (HE.kill rfl HE.nil))), x4x, rfl⟩
  obtain ⟨z, hz⟩ := gE (u2u (l.take i)) (m - 1)
  refine dv 8 fun K K' => ?_
  refine r1r (b := 1) rfl rfl (by omega) (by omega) ?_
  refine z0z (j := m - 1) rfl rfl v6v rfl z4z rfl rfl (z2z (d4n m2 (by omega) hz)) ?_
  refine s6s rfl z4z rfl (d4n m2 (by omega) hz) rfl rfl ?_
  refine z0z (j := m) rfl rfl v6v rfl z4z rfl rfl (z2z (c9y m2)) ?_
  refine v5v (el' := z) rfl rfl z4z rfl rfl rfl (c9y m2) rfl (a5w _) rfl rfl ?_
  refine dv 2 ?_
  refine r1r (b := 1) rfl rfl (by omega) (by omega) (dv 1 ?_)
  exact ⟨(m - 1, z), ⟨⟨by dsimp only; omega, by dsimp only; omega⟩, (by dsimp only; omega)⟩, [], x6x, x6x, (HE.row rfl (by rw [e7v m2 (by omega) hz]) HE.nil), x4x, rfl⟩
end
section
theorem a2t (c : Bool) (l : La) (f t : Nat) (hlen : l.done.length ≤ 1000000) (hf : f ≤ 1000000) (ht : t ≤ 1000000) (hb : ∀ p ∈ l.done, p.sends.length ≤ 1000000 ∧ p.outs.length ≤ 1000000) : a0j Tryz.prog 110 [.agg (r4r c l), .pv (.int .i64 (f : Int)), .pv (.int .i64 (t : Int))] (.agg (r4r true (a1f l f t))) := by
 refine pX Tryz.f110 [.agg (r4r true (a1f l f t))] 11 ?_
 refine dv 1 ?_
 refine y3y (id := 0) rfl rfl rfl (x3x (id := 1) a0y a9m rfl (dv 5 ?_))
 refine rlB a0y a9m ?_
 refine x3x (id := 2) a0y a9m rfl (dv 6 fun K K' => ?_)
 refine a1d 2 4 10 58 12 rfl rfl rfl rfl rfl ?_
 refine x5x (ι := Nat) (fun i γ1 => [(8, pI (i : Int))]) (fun i γ1 => [(10, ((γ1 10), .row 58 12 (((l.done.take i).drop f).map (a2v true)))), (2, ((0 + 1), .box 44 [pI l.proc, pI l.base.x, pI l.base.y, pI l.base.count, .ref 10 (γ1 10)])), (3, ((γ1 3), .dead)), (4, ((γ1 4), .dead)), (5, ((γ1 5), .dead)), (6, ((γ1 6), .dead)), (7, ((γ1 7), .dead)), (8, ((γ1 8), .dead)), (9, ((γ1 9), .dead))]) (fun i => f ≤ i ∧ (i = f ∨ (i ≤ t ∧ i ≤ l.done.length))) (fun i => l.done.length - i) (r2r [2, 3, 6, 7] rfl) (a1p [0, 1] rfl) f ⟨Nat.le_refl _, .inl rfl⟩ [0, 0, 0, _, _, _, _, _, _, _, _] x6x (HE.row rfl (by rw [List.drop_of_length_le (by rw [List.length_take]; omega)]; rfl) (HE.box rfl rfl (HE.kill rfl (HE.kill rfl (HE.kill rfl (HE.kill rfl (HE.kill rfl (HE.kill rfl (HE.kill rfl HE.nil))))))))) rfl fun i γ1 hi => ?_
 obtain ⟨k1, k2⟩ := hi
 refine dc 6 (fun K K' => aS ?_ ?_)<;>intro h<;>try simp at h
 ·refine dv 6 ?_
  have hfin : (l.done.take i).drop f = (l.done.take t).drop f := c6z k1 k2 (by omega)
  refine dv 5 ?_
  rw [a1f, ← hfin]
  exact ⟨_, _, rfl, .agg rfl (.cl rfl (.cl rfl (.cl rfl (.cl rfl (.ref rfl (Le.ow_map _ (fun _ => rfl) (fun _ => rfl)) .nil))))) .nil⟩
 refine dc 6 (aS ?_ ?_)<;>intro h<;>try simp at h
 ·have hfin : (l.done.take i).drop f = (l.done.take t).drop f := c6z k1 k2 (by omega)
  refine dv 5 ?_
  rw [a1f, ← hfin]
  exact ⟨_, _, rfl, .agg rfl (.cl rfl (.cl rfl (.cl rfl (.cl rfl (.ref rfl (Le.ow_map _ (fun _ => rfl) (fun _ => rfl)) .nil))))) .nil⟩
 obtain ⟨p, hp⟩ := gE l.done i
 have g1 : i < t := by omega
 obtain ⟨hps, hpo⟩ := hb p (List.mem_of_getElem? hp)
 refine dv 9 fun K K' => ?_
 refine x3x (id := 3) a6m c3q rfl (dv 5 ?_)
 refine y9y (out := .agg (z1z p.ev)) rfl z4z rfl rfl ?_
 refine dv 1 ?_
 refine y9y (out := .agg (a2b p.after)) rfl a7q rfl rfl ?_
 refine y1y (id := 4) v6v rfl z4z rfl (dv 2 ?_)
 refine a1n w5w (zs := (p.sends).map z1z) rfl rfl v6v rfl z4z rfl rfl rfl (z8z (fun _ => rfl) _) rfl (by (simp only [a0b, r5r, s1s, s3s, a0t, a3b, b2s, T56]; omega)) (Le.ow_map _ (fun _ => rfl) (fun _ => rfl)) ?_
 refine y1y (id := 6) a0c rfl v9v rfl (dv 2 ?_)
 refine a1n w5w (zs := (p.outs).map q5q) rfl rfl a0c rfl v9v rfl rfl rfl (z8z (fun _ => rfl) _) rfl (by (simp only [a0b, r5r, s1s, s3s, a0t, a3b, b2s, T141]; omega)) (Le.ow_map _ (fun _ => rfl) (fun _ => rfl)) ?_
 refine rlB a6m c3q ?_
 refine y5y (id := 8) a9l rfl a6m rfl rfl rfl rfl rfl rfl ?_
 refine y6y (zs := ((l.done.take i).drop f ++ [p]).map (a2v true)) rfl rfl a9l rfl a6m rfl rfl rfl rfl (by rfl) (u0u _ _ _) (by (simp only [a0b, r5r, s1s, s3s, a0t, a3b, b2s, T58]; omega)) ?_
 refine dv 4 ?_
 refine x7x (b := 1) rfl rfl (by omega) (dv 1 ?_)
 exact ⟨i + 1, ⟨⟨by omega, .inr ⟨by omega, by omega⟩⟩, by omega⟩, [0, 0, 0, _, _, _, _, _, _, _, _], x6x, x6x, (HE.row rfl (by rw [z5z hp, List.drop_append_of_le_length (by rw [List.length_take]; omega)]) (HE.box rfl rfl (HE.kill rfl (HE.kill rfl (HE.kill rfl (HE.kill rfl (HE.kill rfl (HE.kill rfl (HE.kill rfl HE.nil))))))))), x4x, rfl⟩
theorem a5u (c : Bool) (n : Nd) (hl : n.lanes.length ≤ 1000000) (hk : n.kept.length ≤ 1000000) (ho : n.outs.length ≤ 1000000) (hd : ∀ l ∈ n.lanes, lb l) : Meth Tryz.prog 155 3 [] [.agg (u1u c n)] [(0, (0, .dead)), (1, (0, .dead)), (2, (0, .dead))] (.agg [pI n.id, .pv (.bool n.up), pI n.inc, pI n.g, .ref 0 0, a0m true n.kept, r8r true n.outs, pI n.led, pI 0, .ref 1 0, .ref 2 0, pI 0, pI 41]) [(0, (0, .row 44 5 ((n.lanes.map p1p).map (r4r true)))), (1, (0, .row 190 3 ([vi0, vi0, vi0].map (a4b true)))), (2, (0, .row 3 1 ([0, 0, 0].map a6j)))] := by
 refine mX Tryz.f155 [.agg [pI n.id, .pv (.bool n.up), pI n.inc, pI n.g, .ref 0 0, a0m true n.kept, r8r true n.outs, pI n.led, pI 0, .ref 1 0, .ref 2 0, pI 0, pI 41]] 3 13 fun γ => ?_
 refine dv 1 ?_
 refine y3y (id := 3) rfl rfl rfl (x3x (id := 4) u6u q4q rfl (dv 9 ?_))
 refine y1y (id := 5) v6v rfl z4z rfl (dv 2 ?_)
 refine a1n w5w (zs := (n.kept).map z1z) rfl rfl v6v rfl z4z rfl rfl rfl (z8z (fun _ => rfl) _) rfl (by (simp only [a0b, r5r, s1s, s3s, a0t, a3b, b2s, T56]; omega)) (Le.ow_map _ (fun _ => rfl) (fun _ => rfl)) ?_
 refine y1y (id := 7) a0c rfl v9v rfl (dv 2 ?_)
 refine a1n w5w (zs := (n.outs).map q5q) rfl rfl a0c rfl v9v rfl rfl rfl (z8z (fun _ => rfl) _) rfl (by (simp only [a0b, r5r, s1s, s3s, a0t, a3b, b2s, T141]; omega)) (Le.ow_map _ (fun _ => rfl) (fun _ => rfl)) ?_
 refine dv 2 ?_
 refine rlB u6u q4q ?_
 refine x3x (id := 9) u6u q4q rfl (dv 5 fun K K' => ?_)
 refine a1d 9 4 0 44 5 rfl rfl rfl rfl rfl ?_
 refine x5x (ι := Nat) (fun i γ1 => [(4, pI (i : Int))]) (fun i γ1 => [(0, ((γ1 0), .row 44 5 (((n.lanes.take i).map p1p).map (r4r true)))), (9, ((0 + 1), .box 65 [pI n.id, .pv (.bool n.up), pI n.inc, pI n.g, .ref 0 (γ1 0), a0m true n.kept, r8r true n.outs, pI n.led, pI 0, .pv (.slice none 0 0), .pv (.slice none 0 0), pI 0, pI 41])), (10, ((γ1 10), .dead)), (11, ((γ1 11), .dead))]) (fun i => i ≤ n.lanes.length) (fun i => n.lanes.length - i) (r2r [1, 2, 3] rfl) (a1p [1, 2, 3, 4, 5, 6, 7, 8, 12, 13, 14, 15] rfl) 0 (by omega) [_, 0, 0, 0, 0, 0, 0, 0, 0, 0, _, _] x6x (HE.row rfl (by rw [List.take_zero]; rfl) (HE.box rfl rfl (HE.kill rfl (HE.kill rfl HE.nil)))) rfl fun i γ1 hi => ?_
 refine dc 7 (fun K K' => aI ?_ ?_)<;>intro h<;>try simp at h
 ·obtain ⟨a, ha⟩ := gE n.lanes i
  have had := hd a (List.mem_of_getElem? ha)
  refine dv 11 fun K K' => ?_
  refine x0x rfl rfl rfl (a2t c a 0 0 had.1 (by omega) (by omega) had.2) ?_
  refine y5y (id := 10) a8u rfl a0y rfl rfl rfl rfl rfl rfl ?_
  refine y6y (zs := ((n.lanes.take i).map p1p ++ [p1p a]).map (r4r true)) rfl rfl a8u rfl a0y rfl rfl rfl rfl (by rfl) (u0u _ _ _) (by (simp only [a0b, r5r, s1s, s3s, a0t, a3b, b2s, T44]; omega)) ?_
  refine dv 4 ?_
  refine u7u rfl rfl rfl (dv 1 ?_)
  exact ⟨i + 1, ⟨by omega, by omega⟩, [_, 0, 0, 0, 0, 0, 0, 0, 0, 0, _, _], (Cov.cons' (t := 4) rfl (by rw [x9x (by omega) (by omega)]; rfl) Cov.nil), x6x, (HE.row rfl (by simp only [z5z ha, List.map_append, List.map_cons, List.map_nil]) (HE.box rfl rfl (HE.kill rfl (HE.kill rfl HE.nil)))), x4x, rfl⟩
 obtain rfl : i = n.lanes.length := by omega
 refine dv 5 fun K K' => ?_
 refine a1d 9 9 1 190 3 rfl rfl rfl rfl rfl (a1d 9 10 2 3 1 rfl rfl rfl rfl rfl ?_)
 refine x5x (ι := Nat) (fun i γ2 => [(5, pI (i : Int))]) (fun i γ2 => [(1, ((γ2 1), .row 190 3 ((List.range i).map fun _ => b1f))), (2, ((γ2 2), .row 3 1 ((List.range i).map fun _ => a6j 0))), (9, ((0 + 1), .box 65 [pI n.id, .pv (.bool n.up), pI n.inc, pI n.g, .ref 0 (γ1 0), a0m true n.kept, r8r true n.outs, pI n.led, pI 0, .ref 1 (γ2 1), .ref 2 (γ2 2), pI 0, pI 41])), (12, ((γ2 12), .dead)), (13, ((γ2 13), .dead)), (14, ((γ2 14), .dead)), (15, ((γ2 15), .dead))]) (fun i => i ≤ 3) (fun i => 3 - i) (r2r [2, 3] rfl) (a1p [0, 3, 4, 5, 6, 7, 8, 10, 11] rfl) 0 (by omega) [0, _, _, 0, 0, 0, 0, 0, 0, 0, 0, 0, _, _, _, _] x6x x4x rfl fun i γ2 hi => ?_
 refine dc 4 (fun K K' => aS ?_ ?_)<;>intro h<;>try simp at h
 ·obtain rfl : i = 3 := by omega
  rw [List.take_length]
  refine dv 4 ?_
  refine c9l (f := fun _ => b1f) (f' := fun _ => a4b true vi0) (l := List.range 3) 1 rfl (fun _ => .same (.same (.le rfl .nil rfl .nil))) ?_
  refine dv 1 ?_
  exact ⟨[_, _, _], rfl, rfl, x4x⟩
 refine dv 6 fun K K' => ?_
 refine rlB a0d a9n ?_
 refine y5y (id := 12) b1m rfl a0d rfl rfl rfl rfl rfl rfl ?_
 refine y6y (zs := (List.range i).map (fun _ => b1f) ++ [b1f]) rfl rfl b1m rfl a0d rfl rfl rfl rfl (by rfl) rfl (by (simp only [a0b, r5r, s1s, s3s, a0t, a3b, b2s, T190]; omega)) ?_
 refine dv 5 ?_
 refine a9o (id := 14) a0k rfl r3r rfl rfl rfl rfl rfl ?_
 refine y6y (zs := (List.range i).map (fun _ => a6j 0) ++ [a6j 0]) rfl rfl a0k rfl r3r rfl rfl rfl rfl (by rfl) rfl (by (simp only [a0b, r5r, s1s, s3s, a0t, a3b, b2s, T3]; omega)) ?_
 refine dv 4 ?_
 refine u7u rfl rfl rfl (dv 1 ?_)
 exact ⟨i + 1, ⟨by omega, by omega⟩, [0, _, _, 0, 0, 0, 0, 0, 0, 0, 0, 0, _, _, _, _], (Cov.cons' (t := 5) rfl (by rw [x9x (by omega) (by omega)]; rfl) Cov.nil), x6x, (HE.row rfl (by rw [List.range_succ, List.map_append]; rfl) (HE.row rfl (by rw [List.range_succ, List.map_append]; rfl) (HE.box rfl rfl (HE.kill rfl (HE.kill rfl (HE.kill rfl (HE.kill rfl HE.nil))))))), x4x, rfl⟩
end
section
theorem a5k (c : Bool) (l : La) (h : lb l) : a0j Tryz.prog 110 [.agg (r4r c l), .pv (.int .i64 ((0 : Nat) : Int)), .pv (.int .i64 (l.done.length : Int))] (.agg (r4r true l)) := by
 have := a2t c l 0 l.done.length h.1 (by omega) h.1 h.2
 rw [b5o] at this
 exact this
theorem y2y (c : Bool) (n : Nd) (h : nb n) : Meth Tryz.prog 161 3 [] [.agg (u1u c n)] [(0, (0, .dead)), (1, (0, .dead)), (2, (0, .dead))] (.agg [pI n.id, .pv (.bool n.up), pI n.inc, pI n.g, .ref 0 0, a0m true n.kept, r8r true n.outs, pI n.led, pI n.version, .ref 1 0, .ref 2 0, pI n.round, pI n.low]) [(0, (0, .row 44 5 ((n.lanes).map (r4r true)))), (1, (0, .row 190 3 ((n.views).map (a4b true)))), (2, (0, .row 3 1 (n.known.map a6j)))] := by
 refine mX Tryz.f161 [.agg [pI n.id, .pv (.bool n.up), pI n.inc, pI n.g, .ref 0 0, a0m true n.kept, r8r true n.outs, pI n.led, pI n.version, .ref 1 0, .ref 2 0, pI n.round, pI n.low]] 3 10 fun γ => ?_
 obtain ⟨b1, b2, b3, b4, b5, b6, b7⟩ := h
 refine dv 1 ?_
 refine y3y (id := 3) rfl rfl rfl (x3x (id := 4) u6u q4q rfl (dv 2 ?_))
 refine rlM [0, 11, 12] [_, _, _] (a5u c n b1 b2 b3 b4) rfl rfl rfl ?_
 refine x3x (id := 5) u6u q4q rfl (dv 5 fun K K' => ?_)
 refine x5x (ι := Nat) (fun i γ1 => [(4, pI (i : Int))]) (fun i γ1 => [(0, ((γ 0 + 1), .row 44 5 ((n.lanes.take i ++ (n.lanes.drop i).map p1p).map (r4r true))))]) (fun i => i ≤ n.lanes.length) (fun i => n.lanes.length - i) (r2r [1, 2, 3] rfl) (a1p [1, 2, 3, 4, 5, 6, 7, 8, 9, 10, 11, 12] rfl) 0 (by omega) [] x6x (HE.row rfl (by rw [List.take_zero, List.drop_zero]; rfl) HE.nil) rfl fun i γ1 hi => ?_
 refine dc 7 (fun K K' => aI ?_ ?_)<;>intro o<;>try simp at o
 ·obtain ⟨p, hp⟩ := gE n.lanes i
  have hpl := b4 p (List.mem_of_getElem? hp)
  have hAl : ((n.lanes.take i).map (r4r true)).length = i := by rw [List.length_map, List.length_take]; omega
  rw [p2p hp, List.map_cons, List.map_append, List.map_cons]
  refine dv 19 fun K K' => ?_
  refine x0x rfl rfl rfl (a5k c p hpl) (c1l rfl rfl a8u rfl a0y rfl rfl hAl (c5b hAl rfl rfl a0y rfl rfl rfl rfl (q7q rfl) rfl ?_))
  refine dv 2 ?_
  refine u7u rfl rfl rfl (dv 1 ?_)
  exact ⟨i + 1, ⟨by omega, by omega⟩, [], (Cov.cons' (t := 4) rfl (by rw [x9x (by omega) (by omega)]; rfl) Cov.nil), x6x, (HE.row rfl (by simp only [z5z hp, List.map_append, List.append_assoc]; rfl) HE.nil), x4x, rfl⟩
 obtain rfl : i = n.lanes.length := by omega
 rw [List.take_length, List.drop_length, List.map_nil, List.append_nil]
 refine dv 17 ?_
 refine y1y (id := 1) b1m rfl a0d rfl (dv 6 fun K K' => ?_)
 refine x5x (ι := Nat) (fun j γ2 => [(5, pI (j : Int))]) (fun j γ2 => [(1, ((γ2 1), .row 190 3 ((n.views.take j).map (a4b true)))), (5, ((0 + 1), .box 65 [pI n.id, .pv (.bool n.up), pI n.inc, pI n.g, .ref 0 (γ 0 + 1), a0m true n.kept, r8r true n.outs, pI n.led, pI n.version, .ref 1 (γ2 1), .ref 12 (0 + 1), pI n.round, pI n.low])), (6, ((γ2 6), .dead)), (7, ((γ2 7), .dead)), (8, ((γ2 8), .dead)), (9, ((γ2 9), .dead))]) (fun j => j ≤ n.views.length) (fun j => n.views.length - j) (r2r [1, 2, 3] rfl) (a1p [0, 2, 3, 4, 10, 11, 12] rfl) 0 (by omega) [0, _, 0, 0, 0, 0, _, _, _, _] x6x (HE.row rfl (by rw [List.take_zero]; rfl) (HE.box rfl rfl (HE.kill rfl (HE.kill rfl (HE.kill rfl (HE.kill rfl HE.nil)))))) rfl fun j γ2 hi => ?_
 refine dc 7 (fun K K' => aS ?_ ?_)<;>intro o<;>try simp at o
 ·obtain rfl : j = n.views.length := by omega
  rw [List.take_length]
  refine dv 2 ?_
  refine y1y (id := 2) a0k rfl r3r rfl (dv 2 ?_)
  refine w6w (zs := n.known.map a6j) rfl rfl a0k rfl r3r rfl rfl rfl (z8z (fun _ => rfl) _) rfl (by (simp only [a0b, r5r, s1s, s3s, a0t, a3b, b2s, T3]; omega)) ?_
  refine dv 6 ?_
  exact ⟨[_, _, _], rfl, rfl, x4x⟩
 obtain ⟨v, hv⟩ := gE n.views j
 have hve := b6 v (List.mem_of_getElem? hv)
 refine dv 18 fun K K' => ?_
 refine y1y (id := 6) v6v rfl z4z rfl (dv 6 ?_)
 refine a1n w5w (zs := (v.events).map z1z) rfl rfl v6v rfl z4z rfl rfl rfl (z8z (fun _ => rfl) _) rfl (by (simp only [a0b, r5r, s1s, s3s, a0t, a3b, b2s, T56]; omega)) (Le.ow_map _ (fun _ => rfl) (fun _ => rfl)) ?_
 refine rlB a0d a9n ?_
 refine y5y (id := 8) b1m rfl a0d rfl rfl rfl rfl rfl rfl ?_
 refine y6y (zs := (n.views.take j ++ [v]).map (a4b true)) rfl rfl b1m rfl a0d rfl rfl rfl rfl (by rfl) (u0u _ _ _) (by (simp only [a0b, r5r, s1s, s3s, a0t, a3b, b2s, T190]; omega)) ?_
 refine dv 4 ?_
 refine u7u rfl rfl rfl (dv 1 ?_)
 exact ⟨j + 1, ⟨by omega, by omega⟩, [0, _, 0, 0, 0, 0, _, _, _, _], (Cov.cons' (t := 5) rfl (by rw [x9x (by omega) (by omega)]; rfl) Cov.nil), x6x, (HE.row rfl (by rw [z5z hv]) (HE.box rfl rfl (HE.kill rfl (HE.kill rfl (HE.kill rfl (HE.kill rfl HE.nil)))))), x4x, rfl⟩
end
section
theorem a9b (c c' : Bool) (l : La) (s : List Ev) : a0j Tryz.prog 148 [.agg (r4r c l), a0m c' s] (.pv (.int .i64 (same l.done s : Int))) := by
 refine pX Tryz.f148 [.pv (.int .i64 (same l.done s : Int))] 1 ?_
 refine u9u 1 rfl fun hlen => ?_
 refine dv 1 ?_
 refine y3y (id := 0) rfl rfl rfl (dv 5 fun K K' => ?_)
 refine x5x (ι := Nat) (fun i γ1 => [(5, pI (i : Int))]) (fun i γ1 => []) (fun i => i ≤ l.done.length ∧ i ≤ s.length ∧ same l.done s = i + same (l.done.drop i) (s.drop i)) (fun i => l.done.length - i) (r2r [1, 2] rfl) (w9w 0 rfl HE.nil) 0 ⟨by omega, by omega, by rw [List.drop_zero, List.drop_zero, Nat.zero_add]⟩ [] x6x x4x rfl fun i γ1 hi => ?_
 obtain ⟨h1, h2, h3⟩ := hi
 refine dc 8 (fun K K' => aS ?_ ?_)<;>intro o<;>try simp at o
 ·have g1 : l.done.length ≤ i := by omega
  refine dv 23 ?_
  refine x2x rfl ?_ rfl
  exact congrArg (fun v : Nat => [AV.pv (.int .i64 (v : Int))]) (h3.trans (by rw [c9v g1]; rfl)).symm
 have g1 : i < l.done.length := by omega
 obtain ⟨p, hp⟩ := gE l.done i
 refine dc 6 (aS ?_ ?_)<;>intro o<;>try simp at o
 ·have g2 : s.length ≤ i := by omega
  refine dv 17 ?_
  refine x2x rfl ?_ rfl
  exact congrArg (fun v : Nat => [AV.pv (.int .i64 (v : Int))]) (h3.trans (by rw [c9w g2]; rfl)).symm
 have g2 : i < s.length := by omega
 obtain ⟨e, he⟩ := gE s i
 refine dv 5 ?_
 refine v0v (out := .agg (z1z p.ev)) rfl z4z rfl ?_
 refine dv 3 ?_
 refine v0v (out := .agg (z1z e)) rfl z4z rfl ?_
 refine dv 0 ?_
 refine b8k rfl rfl (by intro a c h; cases h) (.inl rfl) (f2c _ _ _ _) ?_
 refine dc 1 (aI ?_ ?_)<;>intro hc5<;>try simp at hc5
 ·try have heq : p.ev = e := by simpa [a6u] using hc5
  refine dv 4 ?_
  refine x7x (b := 1) rfl rfl (by omega) (dv 1 ?_)
  exact ⟨i + 1, ⟨⟨by omega, by omega, by rw [h3, c9t hp he heq]; omega⟩, by omega⟩, [], x6x, x6x, x4x, x4x, rfl⟩
 try have heq : ¬ p.ev = e := by simpa [a6u] using hc5
 refine dv 5 ?_
 refine x2x rfl ?_ rfl
 exact congrArg (fun v : Nat => [AV.pv (.int .i64 (v : Int))]) (h3.trans (by rw [c9u hp he heq]; rfl)).symm
theorem b4s (c : Bool) (n : Nd) (hs : (p7p n).length ≤ 5000000) (hlen : n.lanes.length ≤ 1048576) : Meth Tryz.prog 228 1 [] [.agg (u1u c n)] [(0, (0, .dead))] (.ref 0 0) [(0, (0, .row 56 7 ((p7p n).map z1z)))] := by
 refine mX Tryz.f228 [.ref 0 0] 1 3 fun γ => ?_
 have hkl : n.kept.length ≤ 5000000 := by simp only [p7p, r5r] at hs; omega
 refine dv 1 ?_
 refine y3y (id := 1) rfl rfl rfl (dv 2 ?_)
 refine y1y (id := 0) v6v rfl z4z rfl (dv 2 ?_)
 refine w6w (zs := n.kept.map z1z) rfl rfl v6v rfl z4z rfl rfl rfl (z8z (fun _ => rfl) _) rfl (by have hb56 : T56.bytes = 56 := rfl; rw [List.length_map, hb56]; omega) ?_
 refine dv 5 fun K K' => ?_
 refine x5x (ι := Nat) (fun i γ1 => [(3, .ref 0 (γ1 0)), (4, pI (i : Int))]) (fun i γ1 => [(0, ((γ1 0), .row 56 7 ((n.kept ++ (n.lanes.take i).flatMap a4k).map z1z))), (3, ((γ1 3), .dead))]) (fun i => i ≤ n.lanes.length) (fun i => n.lanes.length - i) (x8x 1 rfl Cov.nil) (a1p [1, 2] rfl) 0 (by omega) [_, 0, 0, _] x6x (HE.row rfl (by simp) (HE.kill rfl HE.nil)) rfl fun i γ1 hi => ?_
 refine dc 7 (fun K K' => aS ?_ ?_)<;>intro o<;>try simp at o
 ·obtain rfl : i = n.lanes.length := by omega
  refine dv 5 ?_
  exact ⟨[_], rfl, rfl, HE.row rfl (by rw [List.take_length]; rfl) HE.nil⟩
 obtain ⟨p, hp⟩ := gE n.lanes i
 refine dv 6 fun K K' => ?_
 refine x5x (ι := Nat) (fun j γ2 => [(3, .ref 0 (γ2 0)), (5, pI (j : Int))]) (fun j γ2 => [(0, ((γ2 0), .row 56 7 ((n.kept ++ (n.lanes.take i).flatMap a4k ++ (p.done.take j).flatMap Pa.sends).map z1z))), (3, ((γ2 3), .dead))]) (fun j => j ≤ p.done.length) (fun j => p.done.length - j) (r2r [1, 4] rfl) (a1p [1, 2] rfl) 0 (by omega) [_, 0, 0, _] x6x (HE.row rfl (by simp) (HE.kill rfl HE.nil)) rfl fun j γ2 hi => ?_
 refine dc 11 (fun K K' => aS ?_ ?_)<;>intro o<;>try simp at o
 ·obtain rfl : j = p.done.length := by omega
  refine dv 3 ?_
  refine u7u rfl rfl rfl (dv 1 ?_)
  exact ⟨i + 1, ⟨by omega, by omega⟩, [_, 0, 0, _], (x8x 3 rfl (Cov.cons' (t := 4) rfl (by rw [x9x (by omega) (by omega)]; rfl) Cov.nil)), x6x, (HE.row rfl (by simp only [a2m hp, List.append_assoc, a4k, List.take_length]) (HE.kill rfl HE.nil)), x4x, rfl⟩
 obtain ⟨q, hq⟩ := gE p.done j
 have hsp := c1x hp hq
 refine dv 15 fun K K' => ?_
 refine w6w (zs := (n.kept ++ (n.lanes.take i).flatMap a4k ++ (p.done.take j).flatMap Pa.sends ++ q.sends).map z1z) rfl rfl v6v rfl z4z rfl rfl rfl (z8z (fun _ => rfl) _) (a7s _ _ _) (by have hb56 : T56.bytes = 56 := rfl; rw [List.length_map, hb56]; omega) ?_
 refine dv 1 ?_
 refine u9u 23 rfl fun hlen2 => ?_
 refine dv 2 ?_
 refine u7u rfl rfl rfl (dv 1 ?_)
 exact ⟨j + 1, ⟨by omega, by omega⟩, [_, 0, 0, _], (x8x 3 rfl (Cov.cons' (t := 5) rfl (by rw [x9x (by omega) (by omega)]; rfl) Cov.nil)), x6x, (HE.row rfl (by simp only [a2m hq, List.append_assoc]) (HE.kill rfl HE.nil)), x4x, rfl⟩
end
section
theorem c3y (c c' : Bool) (l : La) (s : List Ev) : a0j Tryz.prog 291 [.agg (r4r c l), a0m c' s] (.pv (.bool (kb (b1d l s)))) := by
 refine pX Tryz.f291 [.pv (.bool (kb (b1d l s)))] 1 ?_
 refine dv 1 ?_
 refine y3y (id := 0) rfl rfl rfl (dv 4 fun K K' => ?_)
 refine x0x rfl rfl rfl (a3q ..) (x0x rfl rfl rfl (a3m ..) (dc 1 (aI ?_ ?_)))<;>intro hc2<;>try simp at hc2
 ·try have hX : ¬ a6y okE a2g s 100 = true := by simpa using hc2
  refine dv 3 ?_
  refine x2x rfl ?_ rfl
  exact congrArg (fun b : Bool => [AV.pv (.bool b)]) (a4v (fun h => hX h.1))
 have hA : a6y okE a2g s 100 = true := hc2
 refine dv 5 fun K K' => ?_
 refine u9u 1 rfl fun hlen => ?_
 refine x5x (ι := Nat) (fun i γ1 => [(5, pI (i : Int))]) (fun i γ1 => []) (fun i => i ≤ s.length ∧ c6w s (fun _ e => e.to = l.proc) i) (fun i => s.length - i) (r2r [1, 2] rfl) (w9w 0 rfl HE.nil) 0 ⟨by omega, a0v⟩ [] x6x x4x rfl fun i γ1 hi => ?_
 obtain ⟨h1, h2⟩ := hi
 refine dc 6 (fun K K' => aS ?_ ?_)<;>intro j<;>try simp at j
 ·have hall := a2i h2 (by omega)
  refine dv 4 ?_
  refine x2x rfl ?_ rfl
  exact congrArg (fun b : Bool => [AV.pv (.bool b)]) (e3t ⟨hA, fun e he => by obtain ⟨i, hi⟩ := List.getElem?_of_mem he; exact hall i e hi⟩)
 obtain ⟨e, he⟩ := gE s i
 refine dc 12 (fun K K' => aS ?_ ?_)<;>intro j<;>try simp at j
 ·have hto : e.to = l.proc := by omega
  refine dv 3 ?_
  refine x7x (b := 1) rfl rfl (by omega) (dv 1 ?_)
  exact ⟨i + 1, ⟨⟨by omega, r0r h2 he hto⟩, by omega⟩, [], x6x, x6x, x4x, x4x, rfl⟩
 have hX : ¬ e.to = l.proc := by omega
 refine dv 3 ?_
 refine x2x rfl ?_ rfl
 exact congrArg (fun b : Bool => [AV.pv (.bool b)]) (a4v (fun h => hX (h.2 e (List.mem_of_getElem? he))))
theorem b3c (c c' : Bool) (l : La) (s : List Ev) : a0j Tryz.prog 241 [.agg (r4r c l), a0m c' s] (.tup [.agg (z1z (a9t l s).1), .pv (.bool (a9t l s).2)]) := by
 refine pX Tryz.f241 [.agg (z1z (a9t l s).1), .pv (.bool (a9t l s).2)] 2 ?_
 have hsm := c7d l.done s
 refine dv 1 ?_
 refine y3y (id := 0) rfl rfl rfl (x3x (id := 1) z4z a8g rfl (dv 4 fun K K' => ?_))
 refine x0x rfl rfl rfl (a3r ..) (dc 2 (aS ?_ ?_))<;>intro hg2<;>try simp at hg2
 ·have fX : ¬ (a5n l = true ∧ b1d l s) := fun h => by have := h.1; simp_all
  refine dv 6 ?_
  refine rlB z4z a8g ?_
  refine dv 3 ?_
  (rw [c7e fX]; exact ⟨_, _, rfl, .agg rfl (.cl rfl (.cl rfl (.cl rfl (.cl rfl (.cl rfl (.cl rfl (.cl rfl .nil))))))) (.cl rfl .nil)⟩)
 have fL : a5n l = true := hg2
 refine dv 2 ?_
 refine x0x rfl rfl rfl (c3y ..) (dc 2 (aI ?_ ?_))<;>intro hc3<;>try simp at hc3
 ·have fX : ¬ (a5n l = true ∧ b1d l s) := fun h => a0p (by simpa using hc3) h.2
  refine dv 1 ?_
  refine rlB z4z a8g ?_
  refine dv 3 ?_
  (rw [c7e fX]; exact ⟨_, _, rfl, .agg rfl (.cl rfl (.cl rfl (.cl rfl (.cl rfl (.cl rfl (.cl rfl (.cl rfl .nil))))))) (.cl rfl .nil)⟩)
 have fF : a5n l = true ∧ b1d l s := ⟨fL, a0o.1 (by simpa using hc3)⟩
 refine dv 4 ?_
 refine x0x rfl rfl rfl (a9b ..) (dv 2 fun K K' => ?_)
 refine u9u 1 rfl fun hlen => ?_
 refine dc 7 (aS ?_ ?_)<;>intro j<;>try simp at j
 ·refine dv 6 ?_
  refine rlB z4z a8g ?_
  refine dv 3 ?_
  (rw [b8x fF, e9y (by omega)]; exact ⟨_, _, rfl, .agg rfl (.cl rfl (.cl rfl (.cl rfl (.cl rfl (.cl rfl (.cl rfl (.cl rfl .nil))))))) (.cl rfl .nil)⟩)
 refine dc 5 (aI ?_ ?_)<;>intro j<;>try simp at j
 ·refine dv 1 ?_
  refine rlB z4z a8g ?_
  refine dv 3 ?_
  (rw [b8x fF, e9z (by omega)]; exact ⟨_, _, rfl, .agg rfl (.cl rfl (.cl rfl (.cl rfl (.cl rfl (.cl rfl (.cl rfl (.cl rfl .nil))))))) (.cl rfl .nil)⟩)
 have hlt : same l.done s < s.length := by omega
 obtain ⟨e, he⟩ : ∃ e, s[same l.done s]? = some e := ⟨_, List.getElem?_eq_getElem hlt⟩
 refine dv 5 ?_
 refine v0v (out := .agg (z1z e)) rfl z4z rfl ?_
 refine dv 3 ?_
 (rw [b8x fF, f0a (by omega) he]; exact ⟨_, _, rfl, .agg rfl (.cl rfl (.cl rfl (.cl rfl (.cl rfl (.cl rfl (.cl rfl (.cl rfl .nil))))))) (.cl rfl .nil)⟩)
end
section
theorem a4c (c : Bool) (l : List Ou) (hl : l.length ≤ 1000000) : a0j Tryz.prog 112 [r8r c l] (r8r true (a0l l)) := by
 refine pX Tryz.f112 [r8r true (a0l l)] 6 ?_
 refine dv 3 ?_
 refine y1y (id := 0) a0c rfl v9v rfl (dv 5 fun K K' => ?_)
 refine r6r (l := ([] : List Ou)) (f := q5q) 3 rfl rfl (fun _ => rfl) ?_
 refine x5x (ι := Nat) (fun i γ1 => [(3, r8r true (a0l (l.take i))), (4, pI (i : Int))]) (fun i γ1 => [(1, ((γ1 1), .dead)), (2, ((γ1 2), .dead)), (3, ((γ1 3), .dead)), (4, ((γ1 4), .dead)), (5, ((γ1 5), .dead))]) (fun i => i ≤ l.length) (fun i => l.length - i) (x8x 0 rfl Cov.nil) (w9w 0 rfl HE.nil) 0 (by omega) [0, _, _, _, _, _] (Cov.cons' (t := 3) rfl (by rw [List.take_zero]; rfl) (x8x 4 rfl Cov.nil)) x4x rfl fun i γ1 hi => ?_
 refine dc 6 (fun K K' => aS ?_ ?_)<;>intro h<;>try simp at h
 ·obtain rfl : i = l.length := by omega
  refine dv 5 ?_
  refine x2x rfl ?_ rfl
  exact congrArg (fun l : List Ou => [r8r true l]) (by rw [List.take_length])
 obtain ⟨x, hx⟩ := gE l i
 have hol : (a0l (l.take i)).length ≤ 1000000 := by rw [b3t, List.length_take]; omega
 refine dv 7 fun K K' => ?_
 refine q8q (ι := Nat) (fun k γ2 => [(5, pI (k : Int))]) (fun k γ2 => []) (fun k => k ≤ (a0l (l.take i)).length ∧ (∀ (j : Nat) y, k ≤ j → (a0l (l.take i))[j]? = some y → b1n x y = true) ∧ (∀ y, 0 < k → (a0l (l.take i))[k - 1]? = some y → b1n x y = false)) (r2r [0, 3, 4] rfl) (a1p [0, 1, 2, 3, 4, 5] rfl) ?_ fun k γ2 hi => ?_
 ·refine dv 1 ?_
  refine x5x (ι := Nat) (fun k γ3 => [(5, pI (k : Int))]) (fun k γ3 => []) (fun k => k ≤ (a0l (l.take i)).length ∧ (∀ (j : Nat) y, k ≤ j → (a0l (l.take i))[j]? = some y → b1n x y = true)) (fun k => k) (r2r [0, 3, 4] rfl) (a1p [0, 1, 2, 3, 4, 5] rfl) (a0l (l.take i)).length ⟨Nat.le_refl _, fun j y hj hy => by have := (List.getElem?_eq_some_iff.1 hy).1; omega⟩ [] x6x x4x rfl fun k γ3 hi => ?_
  obtain ⟨k1, k2⟩ := hi
  refine dc 5 (fun K K' => aS ?_ ?_)<;>intro h<;>try simp at h
  ·have k0 : k = 0 := by omega
   refine dv 12 ?_
   exact ⟨k, ⟨k1, k2, fun y2 h0 h2 => by omega⟩, [], x6x, x6x, x4x, x4x, rfl⟩
  have k0 : 0 < k := by omega
  obtain ⟨y, hy⟩ := gE (a0l (l.take i)) (k - 1)
  refine dv 6 ?_
  refine r1r (b := 1) rfl rfl (by omega) (by omega) (dv 2 ?_)
  refine x0x rfl rfl rfl (b4r ..) (dc 1 (aS ?_ ?_))<;>intro hc7<;>try simp at hc7
  ·try have hlt := hc7
   refine dv 1 ?_
   exact ⟨k, ⟨k1, k2, fun y2 h0 h2 => by (rw [hy] at h2; cases h2; exact hlt)⟩, [], x6x, x6x, x4x, x4x, rfl⟩
  try have hlt := hc7
  refine dv 4 ?_
  refine r1r (b := 1) rfl rfl (by omega) (by omega) (dv 1 ?_)
  exact ⟨k - 1, ⟨⟨by omega, fun j y2 hj hy2 => by by_cases hjk : j = k - 1; (subst hjk; rw [hy] at hy2; cases hy2; exact hlt); exact k2 j y2 (by omega) hy2⟩, by omega⟩, [], x6x, x6x, x4x, x4x, rfl⟩
 ·try dsimp only [b2t, b2u]
  obtain ⟨c1, c2, c3⟩ := hi
  have hin := (d2i hx).trans (f0b f3n (e0v _) c2 c3 c1)
  refine dv 1 ?_
  refine y1y (id := 1) a0c rfl v9v rfl (dv 2 ?_)
  refine c0i rfl a0c rfl v9v rfl rfl rfl (by omega) (by omega) (by omega) ?_
  refine w6w (zs := ((a0l (l.take i)).take k).map q5q) rfl rfl a0c rfl v9v rfl rfl rfl (z8z (fun _ => rfl) _) (by simp) (by (simp only [a0b, r5r, s1s, s3s, a0t, b2s, T141]; omega)) ?_
  refine dv 4 ?_
  refine y5y (id := 3) a0c rfl v9v rfl rfl rfl rfl rfl rfl ?_
  refine y6y (zs := ((a0l (l.take i)).take k ++ [x]).map q5q) rfl rfl a0c rfl v9v rfl rfl rfl rfl (by rfl) (u0u _ _ _) (by (simp only [a0b, r5r, s1s, s3s, a0t, b2s, T141]; omega)) ?_
  refine dv 2 ?_
  refine c0i rfl a0c rfl v9v rfl rfl rfl (by omega) (by (rw [List.length_map]; omega)) (by (rw [List.length_map]; omega)) ?_
  refine a1n w5w (zs := ((a0l (l.take i)).take k ++ x :: (a0l (l.take i)).drop k).map q5q) rfl rfl a0c rfl v9v rfl rfl rfl (z8z (fun _ => rfl) _) (by simp) (by (simp only [a0b, r5r, s1s, s3s, a0t, b2s, T141]; omega)) (Le.ow_map _ (fun _ => rfl) (fun _ => rfl)) ?_
  refine dv 3 ?_
  refine x7x (b := 1) rfl rfl (by omega) (dv 1 ?_)
  exact ⟨i + 1, ⟨by omega, by omega⟩, [0, _, _, _, _, _], (Cov.cons' (t := 3) rfl (by rw [hin]; rfl) (x8x 4 rfl Cov.nil)), x6x, x4x, x4x, rfl⟩
end
section
theorem c3z (c : Bool) (l : La) : a0j Tryz.prog 31 [.agg (r4r c l)] (.agg (a2b (d2x l))) := by
 refine pX Tryz.f31 [.agg (a2b (d2x l))] 2 ?_
 refine dv 1 ?_
 refine y3y (id := 0) rfl rfl rfl (x3x (id := 1) a7q c8u rfl (dv 3 fun K K' => ?_))
 refine x0x rfl rfl rfl (a3r ..) (dc 1 (aI ?_ ?_))<;>intro hc2<;>try simp at hc2
 ·have fX : ¬ a5n l = true := by simpa using hc2
  refine dv 1 ?_
  refine rlB a7q c8u ?_
  refine dv 2 ?_
  (rw [f4k fX]; exact a8w rfl rfl rfl rfl)
 have fL : a5n l = true := hc2
 have hl1 := (a1g fL).1
 refine dc 7 (fun K K' => aI ?_ ?_)<;>intro hc4<;>try simp at hc4
 ·have h0 : l.done.length = 0 := by (rw [hc4]; rfl)
  refine dv 2 ?_
  refine y9y (out := .agg (a2b l.base)) rfl a7q rfl rfl ?_
  refine dv 2 ?_
  (rw [e2u fL h0]; exact a8w rfl rfl rfl rfl)
 have h1 : 0 < l.done.length := List.length_pos_iff.2 hc4
 obtain ⟨p, hp⟩ := gE l.done (l.done.length - 1)
 refine dv 7 ?_
 refine r1r (b := 1) rfl rfl (by omega) (by omega) (dv 2 ?_)
 refine v0v (out := .agg (a2b p.after)) rfl a7q rfl ?_
 refine dv 2 ?_
 (rw [e2v fL hp]; exact a8w rfl rfl rfl rfl)
theorem b1h (c : Bool) (l : La) (f t : Nat) (hlen : l.done.length ≤ 1000000) (hf : f ≤ 1000000) (ht : t ≤ 1000000) (hb : ∀ p ∈ l.done, p.sends.length ≤ 1000000 ∧ p.outs.length ≤ 1000000) : Meth Tryz.prog 110 1 [] [.agg (r4r c l), .pv (.int .i64 (f : Int)), .pv (.int .i64 (t : Int))] [(0, (0, .dead))] (.agg [pI l.proc, pI l.base.x, pI l.base.y, pI l.base.count, .ref 0 0]) [(0, (0, .row 58 12 (((a1f l f t).done).map (a2v true))))] := by
 refine mX Tryz.f110 [.agg [pI l.proc, pI l.base.x, pI l.base.y, pI l.base.count, .ref 0 0]] 1 10 fun γ => ?_
 refine dv 1 ?_
 refine y3y (id := 1) rfl rfl rfl (x3x (id := 2) a0y a9m rfl (dv 5 ?_))
 refine rlB a0y a9m ?_
 refine x3x (id := 3) a0y a9m rfl (dv 6 fun K K' => ?_)
 refine a1d 3 4 0 58 12 rfl rfl rfl rfl rfl ?_
 refine x5x (ι := Nat) (fun i γ1 => [(8, pI (i : Int))]) (fun i γ1 => [(0, ((γ1 0), .row 58 12 (((l.done.take i).drop f).map (a2v true)))), (3, ((0 + 1), .box 44 [pI l.proc, pI l.base.x, pI l.base.y, pI l.base.count, .ref 0 (γ1 0)])), (4, ((γ1 4), .dead)), (5, ((γ1 5), .dead)), (6, ((γ1 6), .dead)), (7, ((γ1 7), .dead)), (8, ((γ1 8), .dead)), (9, ((γ1 9), .dead)), (10, ((γ1 10), .dead))]) (fun i => f ≤ i ∧ (i = f ∨ (i ≤ t ∧ i ≤ l.done.length))) (fun i => l.done.length - i) (r2r [2, 3, 6, 7] rfl) (a1p [1, 2] rfl) f ⟨Nat.le_refl _, .inl rfl⟩ [_, 0, 0, 0, _, _, _, _, _, _, _] x6x (HE.row rfl (by rw [List.drop_of_length_le (by rw [List.length_take]; omega)]; rfl) (HE.box rfl rfl (HE.kill rfl (HE.kill rfl (HE.kill rfl (HE.kill rfl (HE.kill rfl (HE.kill rfl (HE.kill rfl HE.nil))))))))) rfl fun i γ1 hi => ?_
 obtain ⟨k1, k2⟩ := hi
 refine dc 6 (fun K K' => aS ?_ ?_)<;>intro j<;>try simp at j
 ·refine dv 6 ?_
  have hfin : (l.done.take i).drop f = (l.done.take t).drop f := c6z k1 k2 (by omega)
  refine dv 5 ?_
  exact ⟨[_], rfl, rfl, HE.row rfl (by rw [hfin]; rfl) HE.nil⟩
 refine dc 6 (aS ?_ ?_)<;>intro j<;>try simp at j
 ·have hfin : (l.done.take i).drop f = (l.done.take t).drop f := c6z k1 k2 (by omega)
  refine dv 5 ?_
  exact ⟨[_], rfl, rfl, HE.row rfl (by rw [hfin]; rfl) HE.nil⟩
 obtain ⟨p, hp⟩ := gE l.done i
 have g1 : i < t := by omega
 obtain ⟨hps, hpo⟩ := hb p (List.mem_of_getElem? hp)
 refine dv 9 fun K K' => ?_
 refine x3x (id := 4) a6m c3q rfl (dv 5 ?_)
 refine y9y (out := .agg (z1z p.ev)) rfl z4z rfl rfl ?_
 refine dv 1 ?_
 refine y9y (out := .agg (a2b p.after)) rfl a7q rfl rfl ?_
 refine y1y (id := 5) v6v rfl z4z rfl (dv 2 ?_)
 refine a1n w5w (zs := (p.sends).map z1z) rfl rfl v6v rfl z4z rfl rfl rfl (z8z (fun _ => rfl) _) rfl (by (simp only [a0b, r5r, s1s, s3s, a0t, a3b, b2s, T56]; omega)) (Le.ow_map _ (fun _ => rfl) (fun _ => rfl)) ?_
 refine y1y (id := 7) a0c rfl v9v rfl (dv 2 ?_)
 refine a1n w5w (zs := (p.outs).map q5q) rfl rfl a0c rfl v9v rfl rfl rfl (z8z (fun _ => rfl) _) rfl (by (simp only [a0b, r5r, s1s, s3s, a0t, a3b, b2s, T141]; omega)) (Le.ow_map _ (fun _ => rfl) (fun _ => rfl)) ?_
 refine rlB a6m c3q ?_
 refine y5y (id := 9) a9l rfl a6m rfl rfl rfl rfl rfl rfl ?_
 refine y6y (zs := ((l.done.take i).drop f ++ [p]).map (a2v true)) rfl rfl a9l rfl a6m rfl rfl rfl rfl (by rfl) (u0u _ _ _) (by (simp only [a0b, r5r, s1s, s3s, a0t, a3b, b2s, T58]; omega)) ?_
 refine dv 4 ?_
 refine x7x (b := 1) rfl rfl (by omega) (dv 1 ?_)
 exact ⟨i + 1, ⟨⟨by omega, .inr ⟨by omega, by omega⟩⟩, by omega⟩, [_, 0, 0, 0, _, _, _, _, _, _, _], x6x, x6x, (HE.row rfl (by rw [z5z hp, List.drop_append_of_le_length (by rw [List.length_take]; omega)]) (HE.box rfl rfl (HE.kill rfl (HE.kill rfl (HE.kill rfl (HE.kill rfl (HE.kill rfl (HE.kill rfl (HE.kill rfl HE.nil))))))))), x4x, rfl⟩
theorem c2v (a : Ap) (l : La) (s : List Ev) (hA : d1i a) (hL : a5n l = true) : MethE Tryz.prog 328 0 [.agg (b7q true a), .agg (r4r true l), a0m true s] [] (ι := La × Bool) (fun S' => S'.2 = true → ∃ p, S'.1 = a2o l p ∧ l.done.length < 100 ∧ paB p ∧ paC (d2x l).count p) (fun S' => []) (fun S' => .tup [.agg (r4r true S'.1), .pv (.bool (S'.2))]) (fun S' => []) := by
 refine mE (ι := La × Bool) Tryz.f328 (fun S' => [.agg (r4r true S'.1), .pv (.bool (S'.2))]) 0 10 fun γ => ?_
 have hb : ∀ r ∈ a.rules, r.ops.length ≤ 1048576 := fun r hr => by obtain ⟨i, hi⟩ := List.getElem?_of_mem hr; have := (hA.2 i r hi).2.1.2.1; omega
 have hlb := e9x hL
 refine dv 1 ?_
 refine y3y (id := 0) rfl rfl rfl (y3y (id := 1) rfl rfl rfl (x3x (id := 2) a0y a9m rfl (dv 4 ?_)))
 refine x0x rfl rfl rfl (b3c true true l s) (dv 3 ?_)
 refine x3x (id := 3) z4z a8g rfl (dc 7 (fun K K' => aS ?_ ?_))<;>intro hg2<;>try simp at hg2
 ·refine dv 11 fun K K' => ?_
  refine x0x rfl rfl rfl (a3r ..) (dc 1 (aI ?_ ?_))<;>intro hc8<;>try simp at hc8
  ·exact absurd hL (by simpa using hc8)
  refine dv 6 ?_
  refine x0x rfl rfl rfl (a5k true l hlb) (dv 2 ?_)
  skip
  refine dv 1 ?_
  exact ⟨(l, false), (by intro h; simp at h), [], rfl, rfl, x4x⟩
 have hok : (a9t l s).2 = true := hg2
 refine dv 1 ?_
 refine rlB a5c b4g ?_
 refine dv 0 ?_
 refine rlB a5c b4g ?_
 refine dv 0 ?_
 refine rlB a5c b4g ?_
 refine dv 0 ?_
 refine w8w (id := 4) c5y rfl a5c rfl rfl rfl rfl (.val rfl rfl (.val rfl rfl (.val rfl rfl (.val rfl rfl .nil)))) rfl (r9r rfl) (r9r rfl) (r9r rfl) rfl rfl ?_
 refine dv 0 ?_
 refine b5i rfl rfl rfl (.ref rfl (e3f a) .nil) (a8r false (e8i a) (by intro x hx; simp only [e8i, List.mem_cons, List.not_mem_nil, or_false] at hx; rcases hx with rfl | rfl | rfl | rfl <;> first | exact hb | (intro r hr; cases hr))) (.pv _) ?_
 refine dc 2 (aI ?_ ?_)<;>intro j<;>try simp at j
 ·refine dv 3 fun K K' => ?_
  refine x0x rfl rfl rfl (a3r ..) (dc 1 (aI ?_ ?_))<;>intro hc5<;>try simp at hc5
  ·exact absurd hL (by simpa using hc5)
  refine dv 6 ?_
  refine x0x rfl rfl rfl (a5k true l hlb) (dv 2 ?_)
  skip
  refine dv 1 ?_
  exact ⟨(l, false), (by intro h; simp at h), [], rfl, rfl, x4x⟩
 have hroom := e3d hok
 refine dv 1 ?_
 refine d2q 4 (b4k w5w 0 4 rfl rfl ?_)
 refine dv 2 ?_
 refine x0x rfl rfl rfl (c3z true l) (dv 1 ?_)
 refine b4k w5w 9 1 rfl rfl ?_
 refine x3x (id := 5) a7q c8u rfl (b5u c3r (by rfl) [] [] (c8a a (d2x l) (a9t l s).1 hb) rfl rfl rfl rfl (by decide) rfl rfl (by repeat (exact InH.nil)) (fun _ => (by (simp only [pI, a2x, a2z, c0k, gl, nx, a7k, Nat.beq]; rfl))) (fun _ => (by (simp only [pI, a2x, a2z, c0k, gl, nx, a7k, Nat.beq]; rfl))) ⟨d2x l, [], []⟩ ⟨Nat.zero_le _, Nat.zero_le _, fun q h => (by cases h), fun _ => .inr ⟨rfl, rfl⟩⟩ fun r hr => ?_)
 obtain ⟨r1, r2, r3, r4⟩ := hr
 refine b4l w5w 5 4 rfl rfl ?_
 refine dv 4 ?_
 refine b4l w5w 10 3 rfl rfl ?_
 refine dv 3 ?_
 refine c2n (by kernel_rfl) ?_
 refine dv 5 ?_
 refine rlM [9] [_] (b1h true l 0 l.done.length hlb.1 (by omega) hlb.1 hlb.2) rfl rfl rfl ?_
 refine x3x (id := 6) a0y a9m rfl (dv 1 ?_)
 rw [b5o]
 refine dv 6 ?_
 refine x0x rfl rfl rfl (a1i true r.sends (by omega)) ?_
 refine dv 1 ?_
 refine x0x rfl rfl rfl (a4c true r.outs (by omega)) ?_
 refine rlB a6m c3q ?_
 refine y5y (id := 7) a9l rfl a6m rfl rfl rfl rfl rfl rfl ?_
 refine y6y (zs := (l.done ++ [(⟨(a9t l s).1, r.s, u2u r.sends, a0l r.outs⟩ : Pa)]).map (a2v true)) rfl rfl a9l rfl a6m rfl rfl rfl rfl (by rfl) (u0u (a2v true) l.done (⟨(a9t l s).1, r.s, u2u r.sends, a0l r.outs⟩ : Pa)) (by (simp only [a0b, r5r, s1s, s3s, a0t, a3b, b2s, T58]; omega)) ?_
 refine dv 6 ?_
 refine v4v (b := b3u true (l.done ++ [(⟨(a9t l s).1, r.s, u2u r.sends, a0l r.outs⟩ : Pa)])) 2 4 rfl rfl rfl (.ref rfl (Le.ow_map _ (fun _ => rfl) (fun _ => rfl)) .nil) rfl rfl rfl rfl ?_
 refine dv 1 ?_
 exact ⟨(a2o l (⟨(a9t l s).1, r.s, u2u r.sends, a0l r.outs⟩ : Pa), true), (fun _ => ⟨(⟨(a9t l s).1, r.s, u2u r.sends, a0l r.outs⟩ : Pa), rfl, hroom, f1o r1 r2 r3, f1q (r4 ⟨hA, e8g hL, f1p hok⟩)⟩), [], rfl, rfl, x4x⟩
theorem c4a (n : Nd) (q : Int) (hl4 : n.lanes.length ≤ 1000000) : MethE Tryz.prog 327 0 [.agg (u1u true n), .pv (.int .i64 q)] [] (ι := Int) (fun S' => S' = -1 ∨ ∃ (i : Nat) (l : La), S' = (i : Int) ∧ n.lanes[i]? = some l ∧ l.proc = q) (fun S' => []) (fun S' => .pv (.int .i64 S')) (fun S' => []) := by
 refine mE (ι := Int) Tryz.f327 (fun S' => [.pv (.int .i64 S')]) 0 1 fun γ => ?_
 refine dv 1 ?_
 refine y3y (id := 0) rfl rfl rfl (dv 5 fun K K' => ?_)
 refine x5x (ι := Nat) (fun i γ1 => [(5, pI (i : Int))]) (fun i γ1 => []) (fun i => i ≤ n.lanes.length) (fun i => n.lanes.length - i) (r2r [1, 2] rfl) (w9w 0 rfl HE.nil) 0 (by omega) [] x6x x4x rfl fun i γ1 hi => ?_
 refine dc 7 (fun K K' => aS ?_ ?_)<;>intro j<;>try simp at j
 ·refine dv 4 ?_
  exact ⟨-1, .inl rfl, [], rfl, rfl, x4x⟩
 obtain ⟨l, hl⟩ := gE n.lanes i
 refine dc 12 (fun K K' => aI ?_ ?_)<;>intro hc5<;>try simp at hc5
 ·have hq : l.proc = q := hc5
  refine dv 4 ?_
  exact ⟨(i : Int), .inr ⟨i, l, rfl, hl, hq⟩, [], rfl, rfl, x4x⟩
 refine dv 3 ?_
 refine x7x (b := 1) rfl rfl (by omega) (dv 1 ?_)
 exact ⟨i + 1, ⟨by omega, by omega⟩, [], x6x, x6x, x4x, x4x, rfl⟩
end
section
theorem b3d (id : Int) : a0j Tryz.prog 147 [.pv (.int .i64 id)] (.row (.rd true) 44 5 ((w7w id 4).map fun p => r4r true (a9r p))) := by
 refine pX Tryz.f147 [.row (.rd true) 44 5 ((w7w id 4).map fun p => r4r true (a9r p))] 3 ?_
 have hpl := fun k => a5g id k
 refine dv 3 ?_
 refine y1y (id := 0) a8u rfl a0y rfl (dv 5 fun K K' => ?_)
 refine x5x (ι := Nat) (fun i γ1 => [(3, .ref 0 (γ1 0)), (4, pI (i : Int))]) (fun i γ1 => [(0, ((γ1 0), .row 44 5 ((w7w id i).map e1k))), (1, ((γ1 1), .dead)), (2, ((γ1 2), .dead))]) (fun i => i ≤ 4) (fun i => 4 - i) (x8x 0 rfl Cov.nil) HE.nil 0 (by omega) [_, _, _] x6x x4x rfl fun i γ1 hi => ?_
 refine dc 4 (fun K K' => aS ?_ ?_)<;>intro h<;>try simp at h
 ·refine dv 5 ?_
  refine e4j rfl rfl e1l ?_
  have : i = 4 := by omega
  rw [this]
 refine dv 5 fun K K' => ?_
 refine x0x rfl rfl rfl (a1m ..) (dc 2 (aS ?_ ?_))<;>intro h<;>try simp at h
 ·refine dv 3 ?_
  refine u7u rfl rfl rfl (dv 1 ?_)
  exact ⟨i + 1, ⟨by omega, by omega⟩, [_, _, _], (x8x 3 rfl (Cov.cons' (t := 4) rfl (by rw [x9x (by omega) (by omega)]; rfl) Cov.nil)), x6x, (HE.row rfl (by simp only [a7m]; rw [if_neg (by assumption)]) (HE.kill rfl (HE.kill rfl HE.nil))), x4x, rfl⟩
 refine dv 3 ?_
 refine rlB a0y a9m ?_
 refine y5y (id := 1) a8u rfl a0y rfl rfl rfl rfl rfl rfl ?_
 have := hpl i
 refine y6y (zs := (w7w id i ++ [(i : Int)]).map e1k) rfl rfl a8u rfl a0y rfl rfl rfl rfl (by rfl) (u0u _ _ _) (by (simp only [a0b, r5r, s1s, s3s, a0t, a3b, T44]; omega)) ?_
 refine dv 3 ?_
 refine u7u rfl rfl rfl (dv 1 ?_)
 exact ⟨i + 1, ⟨by omega, by omega⟩, [_, _, _], (x8x 3 rfl (Cov.cons' (t := 4) rfl (by rw [x9x (by omega) (by omega)]; rfl) Cov.nil)), x6x, (HE.row rfl (by simp only [a7m]; rw [if_pos (by assumption)]) (HE.kill rfl (HE.kill rfl HE.nil))), x4x, rfl⟩
theorem b5z (c : Bool) (l : La) : a0j Tryz.prog 110 [.agg (r4r c l), .pv (.int .i64 0), .pv (.int .i64 0)] (.agg (r4r true (p1p l))) := by
 refine pX Tryz.f110 [.agg (r4r true (p1p l))] 10 ?_
 refine dv 1 ?_
 refine y3y (id := 0) rfl rfl rfl (x3x (id := 1) a0y a9m rfl (dv 5 ?_))
 refine rlB a0y a9m ?_
 refine x3x (id := 2) a0y a9m rfl (dv 6 fun K K' => ?_)
 refine x5x (ι := Nat) (fun i γ1 => [(8, pI 0)]) (fun i γ1 => [(3, ((γ1 3), .dead)), (4, ((γ1 4), .dead)), (5, ((γ1 5), .dead)), (6, ((γ1 6), .dead)), (7, ((γ1 7), .dead)), (8, ((γ1 8), .dead)), (9, ((γ1 9), .dead))]) (fun i => True) (fun i => 0) (r2r [2, 3, 6, 7] rfl) (a1p [0, 1, 2] rfl) 0 trivial [0, 0, 0, _, _, _, _, _, _, _] x6x x4x rfl fun i γ1 hi => ?_
 refine dv 6 fun K K' => ?_
 refine f4w rfl rfl (fun hg3 => ?_) (fun hg3 => ?_)
 ·simp at hg3
 try simp at hg3
 refine dv 11 ?_
 exact ⟨_, _, rfl, .agg rfl (.cl rfl (.cl rfl (.cl rfl (.cl rfl (.le rfl .nil .nil))))) .nil⟩
theorem c2w (c : Bool) (n : Nd) (hl : n.lanes.length ≤ 1000000000) (hk : n.kept.length ≤ 1000000000) (ho : n.outs.length ≤ 1000000000) : a0j Tryz.prog 155 [.agg (u1u c n)] (.agg (u1u true (a1j n))) := by
 refine pX Tryz.f155 [.agg (u1u true (a1j n))] 16 ?_
 refine dv 1 ?_
 refine y3y (id := 0) rfl rfl rfl (x3x (id := 1) u6u q4q rfl (dv 9 ?_))
 refine y1y (id := 2) v6v rfl z4z rfl (dv 2 ?_)
 refine w6w (zs := n.kept.map z1z) rfl rfl v6v rfl z4z rfl rfl rfl (z8z (fun _ => rfl) _) rfl (by (simp only [a0b, r5r, s1s, s3s, a0t, a3b, T56]; omega)) ?_
 refine y1y (id := 4) a0c rfl v9v rfl (dv 2 ?_)
 refine w6w (zs := n.outs.map q5q) rfl rfl a0c rfl v9v rfl rfl rfl (z8z (fun _ => rfl) _) rfl (by (simp only [a0b, r5r, s1s, s3s, a0t, a3b, T141]; omega)) ?_
 refine dv 2 ?_
 refine rlB u6u q4q ?_
 refine x3x (id := 6) u6u q4q rfl (dv 5 fun K K' => ?_)
 refine a1d 6 4 13 44 5 rfl rfl rfl rfl rfl ?_
 refine x5x (ι := Nat) (fun i γ1 => [(4, pI (i : Int))]) (fun i γ1 => [(13, ((γ1 13), .row 44 5 (((n.lanes.take i).map p1p).map (r4r true)))), (6, ((0 + 1), .box 65 [pI n.id, .pv (.bool n.up), pI n.inc, pI n.g, .ref 13 (γ1 13), .ref 2 2, .ref 4 2, pI n.led, pI 0, .pv (.slice none 0 0), .pv (.slice none 0 0), pI 0, pI 41])), (7, ((γ1 7), .dead)), (8, ((γ1 8), .dead))]) (fun i => i ≤ n.lanes.length) (fun i => n.lanes.length - i) (r2r [1, 2, 3] rfl) (a1p [0, 1, 2, 3, 4, 5, 9, 10, 11, 12, 14, 15] rfl) 0 (by omega) [0, 0, 0, 0, 0, 0, 0, _, _, 0, 0, 0, 0, _] x6x (HE.row rfl (by rw [List.take_zero]; rfl) (HE.box rfl rfl (HE.kill rfl (HE.kill rfl HE.nil)))) rfl fun i γ1 hi => ?_
 refine dc 7 (fun K K' => aI ?_ ?_)<;>intro h<;>try simp at h
 ·refine dv 9 fun K K' => ?_
  obtain ⟨a, ha⟩ := gE n.lanes i
  refine dv 2 ?_
  refine x0x rfl rfl rfl (b5z c a) (y5y (id := 7) a8u rfl a0y rfl rfl rfl rfl rfl rfl ?_)
  refine y6y (zs := ((n.lanes.take i).map p1p ++ [p1p a]).map (r4r true)) rfl rfl a8u rfl a0y rfl rfl rfl rfl (by rfl) (u0u _ _ _) (by (simp only [a0b, r5r, s1s, s3s, a0t, a3b, T44]; omega)) ?_
  refine dv 4 ?_
  refine u7u rfl rfl rfl (dv 1 ?_)
  exact ⟨i + 1, ⟨by omega, by omega⟩, [0, 0, 0, 0, 0, 0, 0, _, _, 0, 0, 0, 0, _], (Cov.cons' (t := 4) rfl (by rw [x9x (by omega) (by omega)]; rfl) Cov.nil), x6x, (HE.row rfl (by simp only [z5z ha, List.map_append, List.map_cons, List.map_nil]) (HE.box rfl rfl (HE.kill rfl (HE.kill rfl HE.nil)))), x4x, rfl⟩
 obtain rfl : i = n.lanes.length := by omega
 refine dv 5 fun K K' => ?_
 refine a1d 6 9 14 190 3 rfl rfl rfl rfl rfl (a1d 6 10 15 3 1 rfl rfl rfl rfl rfl ?_)
 refine x5x (ι := Nat) (fun i γ2 => [(5, pI (i : Int))]) (fun i γ2 => [(14, ((γ2 14), .row 190 3 ((List.range i).map fun _ => b1f))), (15, ((γ2 15), .row 3 1 ((List.range i).map fun _ => a6j 0))), (6, ((0 + 1), .box 65 [pI n.id, .pv (.bool n.up), pI n.inc, pI n.g, .ref 13 (γ1 13), .ref 2 2, .ref 4 2, pI n.led, pI 0, .ref 14 (γ2 14), .ref 15 (γ2 15), pI 0, pI 41])), (9, ((γ2 9), .dead)), (10, ((γ2 10), .dead)), (11, ((γ2 11), .dead)), (12, ((γ2 12), .dead))]) (fun i => i ≤ 3) (fun i => 3 - i) (r2r [2, 3] rfl) (a1p [0, 1, 2, 3, 4, 5, 7, 8, 13] rfl) 0 (by omega) [0, 0, 0, 0, 0, 0, 0, 0, 0, _, _, _, _, 0, _, _] x6x x4x rfl fun i γ2 hi => ?_
 refine dc 4 (fun K K' => aS ?_ ?_)<;>intro h<;>try simp at h
 ·obtain rfl : i = 3 := by omega
  rw [List.take_length]
  refine dv 5 ?_
  exact ⟨_, _, rfl, .agg rfl (.cl rfl (.cl rfl (.cl rfl (.cl rfl (.ref rfl (Le.ow_map _ (fun _ => rfl) (fun _ => rfl)) (.ref rfl (Le.ow_map _ (fun _ => rfl) (fun _ => rfl)) (.ref rfl (Le.ow_map _ (fun _ => rfl) (fun _ => rfl)) (.cl rfl (.cl rfl (.ref rfl (Le.ow_map2 (f := fun _ => b1f) (f' := fun _ => a4b true vi0) (List.range 3) (fun _ => rfl) (fun _ => .cons (.cl rfl) (.cons (.cl rfl) (.cons .nil .nil)))) (.ref rfl (Le.ow_map (f := fun _ => a6j 0) (List.range 3) (fun _ => rfl) (fun _ => rfl)) (.cl rfl (.cl rfl .nil))))))))))))) .nil⟩
 refine dv 6 fun K K' => ?_
 refine rlB a0d a9n ?_
 refine y5y (id := 9) b1m rfl a0d rfl rfl rfl rfl rfl rfl ?_
 refine y6y (zs := (List.range i).map (fun _ => b1f) ++ [b1f]) rfl rfl b1m rfl a0d rfl rfl rfl rfl (by rfl) rfl (by (simp only [a0b, r5r, s1s, s3s, a0t, a3b, T190]; omega)) ?_
 refine dv 5 ?_
 refine a9o (id := 11) a0k rfl r3r rfl rfl rfl rfl rfl ?_
 refine y6y (zs := (List.range i).map (fun _ => a6j 0) ++ [a6j 0]) rfl rfl a0k rfl r3r rfl rfl rfl rfl (by rfl) rfl (by (simp only [a0b, r5r, s1s, s3s, a0t, a3b, T3]; omega)) ?_
 refine dv 4 ?_
 refine u7u rfl rfl rfl (dv 1 ?_)
 exact ⟨i + 1, ⟨by omega, by omega⟩, [0, 0, 0, 0, 0, 0, 0, 0, 0, _, _, _, _, 0, _, _], (Cov.cons' (t := 5) rfl (by rw [x9x (by omega) (by omega)]; rfl) Cov.nil), x6x, (HE.row rfl (by rw [List.range_succ, List.map_append]; rfl) (HE.row rfl (by rw [List.range_succ, List.map_append]; rfl) (HE.box rfl rfl (HE.kill rfl (HE.kill rfl (HE.kill rfl (HE.kill rfl HE.nil))))))), x4x, rfl⟩
theorem b9y (id : Int) : a0j Tryz.prog 89 [.pv (.int .i64 id)] (.agg (u1u true (a0u id))) := by
 refine pX Tryz.f89 [.agg (u1u true (a0u id))] 5 ?_
 have hpl := a5g id 4
 refine dv 1 ?_
 refine x3x (id := 0) u6u q4q rfl (dv 3 fun K K' => ?_)
 refine x0x rfl rfl rfl (y7y ..) (dc 1 (aI ?_ ?_))<;>intro hc2<;>try simp at hc2
 ·have hns : a0u id = nd0 := if_neg (by omega)
  refine dv 1 ?_
  refine rlB u6u q4q ?_
  refine dv 2 ?_
  exact ⟨_, _, rfl, .agg rfl (by rw [hns]; exact .cl rfl (.cl rfl (.cl rfl (.cl rfl (.le rfl .nil (.le rfl .nil (.le rfl .nil (.cl rfl (.cl rfl (.le rfl .nil (.le rfl .nil (.cl rfl (.cl rfl .nil))))))))))))) .nil⟩
 have hin : 0 ≤ id ∧ id ≤ 2 := hc2
 have hns : a0u id = ⟨id, true, 1, 0, (w7w id 4).map a9r, u2u ((w7w id 4).map a0e), [], 0, 1, [vi0, vi0, vi0], [0, 0, 0], 0, 41⟩ := if_pos hin
 have hnb : ({ a1j ⟨id, true, 1, 0, (w7w id 4).map a9r, (w7w id 4).map a0e, [], 0, 0, [], [], 0, 0⟩ with version := 1 } : Nd) = a0u id := by rw [hns, c1v hin]; simp only [a1j, List.map_map]; rfl
 refine dv 4 ?_
 refine x0x rfl rfl rfl (b3d ..) (rlB u6u q4q ?_)
 refine x3x (id := 1) u6u q4q rfl (dv 5 fun K K' => ?_)
 refine a1d 1 5 4 56 7 rfl rfl rfl rfl rfl ?_
 refine x5x (ι := Nat) (fun i γ1 => [(4, pI (i : Int))]) (fun i γ1 => [(4, ((γ1 4), .row 56 7 ((((w7w id 4).take i).map a0e).map z1z))), (1, ((0 + 1), .box 65 [pI id, .pv (.bool true), pI 1, pI 0, .row (.rd true) 44 5 ((w7w id 4).map fun p => r4r true (a9r p)), .ref 4 (γ1 4), .pv (.slice none 0 0), pI 0, pI 0, .pv (.slice none 0 0), .pv (.slice none 0 0), pI 0, pI 0])), (2, ((γ1 2), .dead)), (3, ((γ1 3), .dead))]) (fun i => i ≤ (w7w id 4).length) (fun i => (w7w id 4).length - i) (r2r [2, 3] rfl) (w9w 0 rfl HE.nil) 0 (by omega) [0, 0, _, _, _] x6x (HE.row rfl (by rw [List.take_zero]; rfl) (HE.box rfl rfl (HE.kill rfl (HE.kill rfl HE.nil)))) rfl fun i γ1 hi => ?_
 refine dc 7 (fun K K' => aS ?_ ?_)<;>intro h<;>try simp at h
 ·obtain rfl : i = (w7w id 4).length := by omega
  rw [List.take_length]
  refine dv 1 ?_
  refine v4v (b := a0m true ((w7w id 4).map a0e)) 1 5 rfl rfl rfl (.ref rfl (Le.ow_map _ (fun _ => rfl) (fun _ => rfl)) .nil) rfl rfl rfl rfl ?_
  refine v4v (b := r8r true []) 1 6 rfl rfl rfl (.le rfl .nil .nil) rfl rfl rfl rfl ?_
  refine v4v (b := c3l true []) 1 9 rfl rfl rfl (.le rfl .nil .nil) rfl rfl rfl rfl ?_
  refine v4v (b := a4u true []) 1 10 rfl rfl rfl (.le rfl .nil .nil) rfl rfl rfl rfl ?_
  rw [show (AV.row (.rd true) 44 5 ((w7w id 4).map fun p => r4r true (a9r p))) = b9t true ((w7w id 4).map a9r) from by rw [b9t, List.map_map]; rfl]
  refine dv 2 ?_
  refine x0x rfl rfl rfl (c2w true ⟨id, true, 1, 0, (w7w id 4).map a9r, (w7w id 4).map a0e, [], 0, 0, [], [], 0, 0⟩ (by rw [List.length_map]; omega) (by rw [List.length_map]; omega) (by simp)) ?_
  refine dv 8 ?_
  exact a8w (cs := u1u true { a1j ⟨id, true, 1, 0, (w7w id 4).map a9r, (w7w id 4).map a0e, [], 0, 0, [], [], 0, 0⟩ with version := 1 }) rfl (by rw [hnb]) rfl rfl
 obtain ⟨p, hp⟩ := gE (w7w id 4) i
 refine dv 12 fun K K' => ?_
 refine x0x rfl rfl rfl (c2t ..) (y5y (id := 2) v6v rfl z4z rfl rfl rfl rfl rfl rfl ?_)
 refine y6y (zs := (((w7w id 4).take i).map a0e ++ [a0e p]).map z1z) rfl rfl v6v rfl z4z rfl rfl rfl rfl (by rfl) (u0u _ _ _) (by (simp only [a0b, r5r, s1s, s3s, a0t, a3b, T56]; omega)) ?_
 refine dv 4 ?_
 refine u7u rfl rfl rfl (dv 1 ?_)
 exact ⟨i + 1, ⟨by omega, by omega⟩, [0, 0, _, _, _], (Cov.cons' (t := 4) rfl (by rw [x9x (by omega) (by omega)]; rfl) Cov.nil), x6x, (HE.row rfl (by simp only [z5z hp, List.map_append, List.map_cons, List.map_nil]) (HE.box rfl rfl (HE.kill rfl (HE.kill rfl HE.nil)))), x4x, rfl⟩
end
section
theorem b9z (c : Bool) (n : Nd) : a0j Tryz.prog 233 [.agg (u1u c n)] (.pv (.bool (decide (a7u n)))) := by
 refine pX Tryz.f233 [.pv (.bool (decide (a7u n)))] 1 ?_
 refine dv 1 ?_
 refine y3y (id := 0) rfl rfl rfl (dv 4 ?_)
 refine x0x rfl rfl rfl (a7f ..) (dc 1 (aS ?_ ?_))<;>intro u<;>try simp at u
 ·refine dv 30 ?_
  refine x2x rfl ?_ rfl
  exact kF (by unfold a7u; omega)
 refine dv 2 ?_
 refine x0x rfl rfl rfl (z3z ..) (dc 2 (aS ?_ ?_))<;>intro u<;>try simp at u
 ·refine dv 25 ?_
  refine x2x rfl ?_ rfl
  exact kF (by unfold a7u; omega)
 refine dv 2 ?_
 refine x0x rfl rfl rfl (z3z ..) (dc 2 (aS ?_ ?_))<;>intro u<;>try simp at u
 ·refine dv 20 ?_
  refine x2x rfl ?_ rfl
  exact kF (by unfold a7u; omega)
 refine dv 2 ?_
 refine x0x rfl rfl rfl (z3z ..) (dc 2 (aS ?_ ?_))<;>intro u<;>try simp at u
 ·refine dv 15 ?_
  refine x2x rfl ?_ rfl
  exact kF (by unfold a7u; omega)
 refine dv 2 ?_
 refine x0x rfl rfl rfl (z3z ..) (dc 2 (aS ?_ ?_))<;>intro u<;>try simp at u
 ·refine dv 10 ?_
  refine x2x rfl ?_ rfl
  exact kF (by unfold a7u; omega)
 refine dv 2 ?_
 refine x0x rfl rfl rfl (z3z ..) (dc 2 (aS ?_ ?_))<;>intro u<;>try simp at u
 ·refine dv 5 ?_
  refine x2x rfl ?_ rfl
  exact kF (by unfold a7u; omega)
 refine dv 2 ?_
 refine x0x rfl rfl rfl (z3z ..) (dv 3 ?_)
 refine x2x rfl ?_ rfl
 exact congrArg (fun b : Bool => [AV.pv (.bool b)]) (decide_eq_decide.2 (by unfold a7u; omega))
theorem z9z  : a0j Tryz.prog 143 [] (.pv (.int .i64 9999)) := by
 refine pX Tryz.f143 [.pv (.int .i64 9999)] 0 ?_
 refine dv 5 ?_
 exact x2x rfl rfl rfl
theorem b1i (c : Bool) (v : Vi) : a0j Tryz.prog 168 [.agg (a4b c v)] (.pv (.bool (kb (d4m v)))) := by
 refine pX Tryz.f168 [.pv (.bool (kb (d4m v)))] 1 ?_
 refine dv 1 ?_
 refine y3y (id := 0) rfl rfl rfl (dv 4 ?_)
 refine x0x rfl rfl rfl (z9z ..) (x0x rfl rfl rfl (y7y ..) (dc 1 (aS ?_ ?_)))<;>intro u<;>try simp at u
 ·refine dv 12 ?_
  refine x2x rfl ?_ rfl
  exact congrArg (fun b : Bool => [AV.pv (.bool b)]) (a4v (fun h => by obtain ⟨q1, q2, q3⟩ := h; omega))
 refine dv 2 ?_
 refine x0x rfl rfl rfl (z9z ..) (dv 0 ?_)
 refine x0x rfl rfl rfl (y7y ..) (dc 2 (aS ?_ ?_))<;>intro u<;>try simp at u
 ·refine dv 6 ?_
  refine x2x rfl ?_ rfl
  exact congrArg (fun b : Bool => [AV.pv (.bool b)]) (a4v (fun h => by obtain ⟨q1, q2, q3⟩ := h; omega))
 refine dv 2 ?_
 refine x0x rfl rfl rfl (a3q ..) (dv 0 ?_)
 refine x0x rfl rfl rfl (a3m ..) (dv 3 ?_)
 refine x2x rfl ?_ rfl
 exact congrArg (fun b : Bool => [AV.pv (.bool b)]) (e9u ⟨fun h => ⟨by omega, by omega, h⟩, fun h => h.2.2⟩)
theorem c2x (c : Bool) (n : Nd) : a0j Tryz.prog 146 [.agg (u1u c n)] (.pv (.bool (kb (c6v n)))) := by
 refine pX Tryz.f146 [.pv (.bool (kb (c6v n)))] 1 ?_
 refine dv 1 ?_
 refine y3y (id := 0) rfl rfl rfl (dc 8 (fun K K' => aS ?_ ?_))<;>intro u<;>try simp at u
 ·refine dv 28 ?_
  refine x2x rfl ?_ rfl
  exact congrArg (fun b : Bool => [AV.pv (.bool b)]) (a4v (fun h => by obtain ⟨q1, q2, q3, q4, q5, q6⟩ := h; omega))
 refine dc 6 (aS ?_ ?_)<;>intro u<;>try simp at u
 ·refine dv 22 ?_
  refine x2x rfl ?_ rfl
  exact congrArg (fun b : Bool => [AV.pv (.bool b)]) (a4v (fun h => by obtain ⟨q1, q2, q3, q4, q5, q6⟩ := h; omega))
 refine dv 2 ?_
 refine x0x rfl rfl rfl (z9z ..) (dv 0 ?_)
 refine x0x rfl rfl rfl (y7y ..) (dc 3 (aS ?_ ?_))<;>intro u<;>try simp at u
 ·refine dv 15 ?_
  refine x2x rfl ?_ rfl
  exact congrArg (fun b : Bool => [AV.pv (.bool b)]) (a4v (fun h => by obtain ⟨q1, q2, q3, q4, q5, q6⟩ := h; omega))
 refine dv 2 ?_
 refine x0x rfl rfl rfl (z9z ..) (dv 0 ?_)
 refine x0x rfl rfl rfl (y7y ..) (dc 3 (aS ?_ ?_))<;>intro u<;>try simp at u
 ·refine dv 8 ?_
  refine x2x rfl ?_ rfl
  exact congrArg (fun b : Bool => [AV.pv (.bool b)]) (a4v (fun h => by obtain ⟨q1, q2, q3, q4, q5, q6⟩ := h; omega))
 refine dv 2 ?_
 refine x0x rfl rfl rfl (y7y ..) (dc 2 (aI ?_ ?_))<;>intro u<;>try simp at u
 ·refine dv 3 ?_
  refine x2x rfl ?_ rfl
  exact congrArg (fun b : Bool => [AV.pv (.bool b)]) (a4v (fun h => by obtain ⟨q1, q2, q3, q4, q5, q6⟩ := h; omega))
 have hL : n.views.length = 3 ∧ n.known.length = 3 ∧ (0 ≤ n.version ∧ n.version ≤ 9999) ∧ (0 ≤ n.round ∧ n.round ≤ 9999) ∧ (0 ≤ n.low ∧ n.low ≤ 41) := by omega
 refine dv 5 fun K K' => ?_
 refine x5x (ι := Nat) (fun i γ1 => [(3, pI (i : Int))]) (fun i γ1 => []) (fun i => i ≤ 3 ∧ c6w n.views (fun j v => ∀ k, n.known[j]? = some k → d4m v ∧ 0 ≤ k ∧ k ≤ 41) i) (fun i => 3 - i) (x8x 1 rfl Cov.nil) (w9w 0 rfl HE.nil) 0 ⟨by omega, a0v⟩ [] x6x x4x rfl fun i γ1 hi => ?_
 obtain ⟨h1, h2⟩ := hi
 refine dc 4 (fun K K' => aS ?_ ?_)<;>intro u<;>try simp at u
 ·obtain rfl : i = 3 := by omega
  refine dv 4 ?_
  refine x2x rfl ?_ rfl
  exact congrArg (fun b : Bool => [AV.pv (.bool b)]) (e3t ⟨hL.1, hL.2.1, hL.2.2.1, hL.2.2.2.1, hL.2.2.2.2, fun i v k a b => a2i h2 (by omega) i v a k b⟩)
 obtain ⟨v, hv⟩ := gE n.views i
 obtain ⟨k, hk⟩ := gE n.known i
 refine dv 9 fun K K' => ?_
 refine x0x rfl rfl rfl (b1i ..) (dc 2 (aS ?_ ?_))<;>intro hg11<;>try simp at hg11
 ·have hbad : ¬ d4m v := a0p (by simpa using hg11)
  refine dv 11 ?_
  refine x2x rfl ?_ rfl
  exact congrArg (fun b : Bool => [AV.pv (.bool b)]) (a4v (fun h => hbad (h.2.2.2.2.2 _ _ _ hv hk).1))
 have hvo : d4m v := a0o.1 (by simpa using hg11)
 refine dv 5 ?_
 refine x0x rfl rfl rfl (y7y ..) (dc 2 (aS ?_ ?_))<;>intro u<;>try simp at u
 ·refine dv 3 ?_
  refine x7x (b := 1) rfl rfl (by omega) (dv 1 ?_)
  exact ⟨i + 1, ⟨⟨by omega, r0r h2 hv (fun k2 hk2 => by rw [hk] at hk2; cases hk2; exact ⟨hvo, by omega⟩)⟩, by omega⟩, [], x6x, x6x, x4x, x4x, rfl⟩
 refine dv 3 ?_
 refine x2x rfl ?_ rfl
 exact congrArg (fun b : Bool => [AV.pv (.bool b)]) (a4v (fun h => by have := (h.2.2.2.2.2 _ _ _ hv hk).2; omega))
theorem c4b (c : Bool) (n : Nd) : a0j Tryz.prog 129 [.agg (u1u c n)] (.pv (.bool (kb (a1e n)))) := by
 refine pX Tryz.f129 [.pv (.bool (kb (a1e n)))] 4 ?_
 refine dv 1 ?_
 refine y3y (id := 0) rfl rfl rfl (dv 4 fun K K' => ?_)
 refine x0x rfl rfl rfl (b9z ..) (dc 2 (aS ?_ ?_))<;>intro hg2<;>try simp at hg2
 ·have hX : ¬ a7u n := hg2
  refine dv 14 ?_
  refine x2x rfl ?_ rfl
  exact congrArg (fun b : Bool => [AV.pv (.bool b)]) (a4v (fun h => by obtain ⟨q1, q2, q3, q4, q5, q6, q7, q8, q9⟩ := h; exact hX q1))
 have hA1 : a7u n := hg2
 refine dv 2 ?_
 refine x0x rfl rfl rfl (a5j ..) (dc 3 (aS ?_ ?_))<;>intro hg3<;>try simp at hg3
 ·have hX : ¬ a6y okE a2g n.kept 100 = true := by simpa using hg3
  refine dv 8 ?_
  refine x2x rfl ?_ rfl
  exact congrArg (fun b : Bool => [AV.pv (.bool b)]) (a4v (fun h => by obtain ⟨q1, q2, q3, q4, q5, q6, q7, q8, q9⟩ := h; exact hX q2))
 have hA2 : a6y okE a2g n.kept 100 = true := hg3
 refine dv 2 ?_
 refine x0x rfl rfl rfl (b0w ..) (dc 2 (aI ?_ ?_))<;>intro hc4<;>try simp at hc4
 ·try have hX : ¬ a6y okO b1n n.outs 96 = true := by simpa using hc4
  refine dv 3 ?_
  refine x2x rfl ?_ rfl
  exact congrArg (fun b : Bool => [AV.pv (.bool b)]) (a4v (fun h => by obtain ⟨q1, q2, q3, q4, q5, q6, q7, q8, q9⟩ := h; exact hX q3))
 have hA3 : a6y okO b1n n.outs 96 = true := hc4
 refine dv 8 fun K K' => ?_
 refine u9u 27 rfl fun hlen0 => ?_
 refine x5x (ι := Nat) (fun i γ1 => [(29, pI (i : Int))]) (fun i γ1 => [(1, ((γ1 1), .dead))]) (fun i => i ≤ n.outs.length ∧ c6w n.outs (fun _ o => o.time < n.g) i) (fun i => n.outs.length - i) (r2r [1, 27, 28] rfl) (a1p [0, 2, 3] rfl) 0 ⟨by omega, a0v⟩ [0, _] x6x x4x rfl fun i γ1 hi => ?_
 obtain ⟨a1, a2⟩ := hi
 refine dc 3 (fun K K' => aI ?_ ?_)<;>intro u<;>try simp at u
 ·obtain ⟨o, ho⟩ := gE n.outs i
  refine dv 6 fun K K' => ?_
  refine x3x (id := 1) v9v c4x rfl (dc 7 (aS ?_ ?_))<;>intro u<;>try simp at u
  ·have hlt : o.time < n.g := by omega
   refine dv 2 ?_
   refine x7x (b := 1) rfl rfl (by omega) (dv 1 ?_)
   exact ⟨i + 1, ⟨⟨by omega, r0r a2 ho hlt⟩, by omega⟩, [0, _], x6x, x6x, x4x, x4x, rfl⟩
  have hX : ¬ o.time < n.g := by omega
  refine dv 3 ?_
  refine x2x rfl ?_ rfl
  exact congrArg (fun b : Bool => [AV.pv (.bool b)]) (a4v (fun h => by obtain ⟨q1, q2, q3, q4, q5, q6, q7, q8, q9⟩ := h; exact hX (q4 _ _ ho)))
 have hO : ∀ (i : Nat) o, n.outs[i]? = some o → o.time < n.g := a2i a2 (by omega)
 refine dv 4 ?_
 refine x0x rfl rfl rfl (b4o ..) (dc 10 (fun K K' => aS ?_ ?_))<;>intro u<;>try simp at u
 ·refine dv 14 ?_
  refine x2x rfl ?_ rfl
  exact congrArg (fun b : Bool => [AV.pv (.bool b)]) (a4v (fun h => by obtain ⟨q1, q2, q3, q4, q5, q6, q7, q8, q9⟩ := h; omega))
 refine dc 6 (aS ?_ ?_)<;>intro u<;>try simp at u
 ·refine dv 8 ?_
  refine x2x rfl ?_ rfl
  exact congrArg (fun b : Bool => [AV.pv (.bool b)]) (a4v (fun h => by obtain ⟨q1, q2, q3, q4, q5, q6, q7, q8, q9⟩ := h; omega))
 refine dc 5 (aI ?_ ?_)<;>intro u<;>try simp at u
 ·refine dv 3 ?_
  refine x2x rfl ?_ rfl
  exact congrArg (fun b : Bool => [AV.pv (.bool b)]) (a4v (fun h => by obtain ⟨q1, q2, q3, q4, q5, q6, q7, q8, q9⟩ := h; omega))
 have hL : n.lanes.length = (w7w n.id 4).length ∧ n.views.length = 3 ∧ n.known.length = 3 := by omega
 refine dv 8 fun K K' => ?_
 refine u9u 61 rfl fun hlen1 => ?_
 refine x5x (ι := Nat) (fun j γ2 => [(63, pI (j : Int))]) (fun j γ2 => [(2, ((γ2 2), .dead))]) (fun j => j ≤ n.lanes.length ∧ c6w n.lanes (fun j l => (w7w n.id 4)[j]? = some l.proc ∧ a5n l = true) j) (fun j => n.lanes.length - j) (r2r [1, 5, 61, 62] rfl) (a1p [0, 1, 3] rfl) 0 ⟨by omega, a0v⟩ [0, 0, _] x6x x4x rfl fun j γ2 hi => ?_
 obtain ⟨b1, b2⟩ := hi
 refine dc 3 (fun K K' => aI ?_ ?_)<;>intro u<;>try simp at u
 ·obtain ⟨l, hl⟩ := gE n.lanes j
  obtain ⟨q, hq⟩ := gE (w7w n.id 4) j
  refine dv 7 fun K K' => ?_
  refine x3x (id := 2) a0y a9m rfl (dc 11 (aS ?_ ?_))<;>intro hg18<;>try simp at hg18
  ·have hX : ¬ l.proc = q := hg18
   refine dv 7 ?_
   refine x2x rfl ?_ rfl
   exact congrArg (fun b : Bool => [AV.pv (.bool b)]) (a4v (fun h => by obtain ⟨q1, q2, q3, q4, q5, q6, q7, q8, q9⟩ := h; have := (q8 _ _ hl).1; rw [hq] at this; exact hX (Option.some.inj this).symm))
  have hpe : l.proc = q := hg18
  refine dv 1 ?_
  refine x0x rfl rfl rfl (c8d ..) (dc 2 (aS ?_ ?_))<;>intro hc19<;>try simp at hc19
  ·have hlo : a5n l = true := hc19
   refine dv 2 ?_
   refine x7x (b := 1) rfl rfl (by omega) (dv 1 ?_)
   exact ⟨j + 1, ⟨⟨by omega, r0r b2 hl ⟨by rw [hq, hpe], hlo⟩⟩, by omega⟩, [0, 0, _], x6x, x6x, x4x, x4x, rfl⟩
  try have hX : ¬ a5n l = true := by simpa using hc19
  refine dv 3 ?_
  refine x2x rfl ?_ rfl
  exact congrArg (fun b : Bool => [AV.pv (.bool b)]) (a4v (fun h => by obtain ⟨q1, q2, q3, q4, q5, q6, q7, q8, q9⟩ := h; exact hX (q8 _ _ hl).2))
 have hN : e4x n := a2i b2 (by omega)
 refine dv 8 fun K K' => ?_
 refine u9u 82 rfl fun hlen2 => ?_
 refine x5x (ι := Nat) (fun k γ3 => [(84, pI (k : Int))]) (fun k γ3 => [(3, ((γ3 3), .dead))]) (fun k => k ≤ n.views.length ∧ c6w n.views (fun j v => ∀ k, n.known[j]? = some k → d4m v ∧ 0 ≤ k ∧ k ≤ 41) k) (fun k => n.views.length - k) (r2r [1, 82, 83] rfl) (a1p [0, 1, 2] rfl) 0 ⟨by omega, a0v⟩ [0, 0, 0, _] x6x x4x rfl fun k γ3 hi => ?_
 obtain ⟨c1, c2⟩ := hi
 refine dc 3 (fun K K' => aS ?_ ?_)<;>intro u<;>try simp at u
 ·have hV : e0n n := fun i v k0 a b => a2i c2 (by omega) i v a k0 b
  refine dv 4 ?_
  refine x2x rfl ?_ rfl
  exact congrArg (fun b : Bool => [AV.pv (.bool b)]) (e3t ⟨hA1, hA2, hA3, hO, hL.1, hL.2.1, hL.2.2, hN, hV⟩)
 obtain ⟨v, hv⟩ := gE n.views k
 obtain ⟨k0, hk⟩ := gE n.known k
 refine dv 7 fun K K' => ?_
 refine x3x (id := 3) a0d a9n rfl (dv 2 ?_)
 refine q8q (ι := Unit) (fun _i γ4 => [(10, .pv (.bool (kb (d4m v))))]) (fun _i γ4 => []) (fun _i => True) (r2r [1, 8, 82, 83, 84] rfl) (a1p [0, 1, 2, 3] rfl) ?_ fun _i γ4 hi => ?_
 ·refine dv 3 ?_
  refine x0x rfl rfl rfl (z3z ..) (dc 1 (aS ?_ ?_))<;>intro u<;>try simp at u
  ·refine dv 9 ?_
   exact ⟨(), trivial, [], (Cov.cons' (t := 10) rfl (by exact congrArg (fun b : Bool => AV.pv (.bool b)) (a4v (fun h => by obtain ⟨q1, q2, q3⟩ := h; omega))) Cov.nil), x6x, x4x, x4x, rfl⟩
  refine dv 2 ?_
  refine x0x rfl rfl rfl (z3z ..) (dc 2 (aS ?_ ?_))<;>intro u<;>try simp at u
  ·refine dv 4 ?_
   exact ⟨(), trivial, [], (Cov.cons' (t := 10) rfl (by exact congrArg (fun b : Bool => AV.pv (.bool b)) (a4v (fun h => by obtain ⟨q1, q2, q3⟩ := h; omega))) Cov.nil), x6x, x4x, x4x, rfl⟩
  refine dv 2 ?_
  refine x0x rfl rfl rfl (a5j ..) (dv 2 ?_)
  exact ⟨(), trivial, [], (Cov.cons' (t := 10) rfl (congrArg (fun b : Bool => AV.pv (.bool b)) (e9u ⟨fun h => ⟨by omega, by omega, h⟩, fun h => h.2.2⟩)) Cov.nil), x6x, x4x, x4x, rfl⟩
 ·try dsimp only [b2t, b2u]
  refine dc 4 (aS ?_ ?_)<;>intro hg27<;>try simp at hg27
  ·have hX : ¬ d4m v := a0p (by simpa using hg27)
   refine dv 11 ?_
   refine x2x rfl ?_ rfl
   exact congrArg (fun b : Bool => [AV.pv (.bool b)]) (a4v (fun h => by obtain ⟨q1, q2, q3, q4, q5, q6, q7, q8, q9⟩ := h; exact hX (q9 _ _ _ hv hk).1))
  have hvo : d4m v := a0o.1 (by simpa using hg27)
  refine dv 5 ?_
  refine x0x rfl rfl rfl (z3z ..) (dc 2 (aS ?_ ?_))<;>intro u<;>try simp at u
  ·refine dv 2 ?_
   refine x7x (b := 1) rfl rfl (by omega) (dv 1 ?_)
   exact ⟨k + 1, ⟨⟨by omega, r0r c2 hv (fun k2 hk2 => by rw [hk] at hk2; cases hk2; exact ⟨hvo, by omega⟩)⟩, by omega⟩, [0, 0, 0, _], x6x, x6x, x4x, x4x, rfl⟩
  refine dv 3 ?_
  refine x2x rfl ?_ rfl
  exact congrArg (fun b : Bool => [AV.pv (.bool b)]) (a4v (fun h => by obtain ⟨q1, q2, q3, q4, q5, q6, q7, q8, q9⟩ := h; have := (q9 _ _ _ hv hk).2; omega))
end
section
theorem a4d (c : Bool) (n : Nd) (proc : Int) (hs : (p7p n).length + (s4s n 3).length ≤ 5000000) (hlen : n.lanes.length ≤ 1048576) (hv3 : n.views.length = 3) : a0j Tryz.prog 124 [.agg (u1u c n), .pv (.int .i64 proc)] (a0m true (a1k n proc)) := by
 refine pX Tryz.f124 [a0m true (a1k n proc)] 6 ?_
 have hla : (p7p n ++ s4s n 3).length = (p7p n).length + (s4s n 3).length := List.length_append
 refine dv 1 ?_
 refine y3y (id := 0) rfl rfl rfl (dv 3 ?_)
 refine rlM [5] [_] (b4s c n (by omega) hlen) rfl rfl rfl ?_
 refine dv 5 fun K K' => ?_
 refine x5x (ι := Nat) (fun i γ1 => [(5, .ref 5 (γ1 5)), (6, pI (i : Int))]) (fun i γ1 => [(5, ((γ1 5), .row 56 7 ((p7p n ++ s4s n i).map z1z))), (1, ((γ1 1), .dead))]) (fun i => i ≤ 3) (fun i => 3 - i) (r2r [1, 2] rfl) (a1p [0, 2, 3, 4] rfl) 0 (by omega) [0, _, 0, 0, 0, _] x6x (HE.row rfl (by simp [s4s]) (HE.kill rfl HE.nil)) rfl fun i γ1 hi => ?_
 refine dc 7 (fun K K' => aI ?_ ?_)<;>intro h<;>try simp at h
 ·obtain ⟨v, hv⟩ := gE n.views i
  have hg : n.views.getD i vi0 = v := by rw [List.getD_eq_getElem?_getD, hv]; rfl
  have hol := c9s n (i := i + 1) (by omega)
  rw [a2j] at hol
  refine dc 8 (fun K K' => aS ?_ ?_)<;>intro hc5<;>try simp at hc5
  ·have hve : b2g n i = [] := by rw [b2g, if_pos hc5]
   refine dv 3 ?_
   refine u7u rfl rfl rfl (dv 1 ?_)
   exact ⟨i + 1, ⟨by omega, by omega⟩, [0, _, 0, 0, 0, _], (x8x 5 rfl (Cov.cons' (t := 6) rfl (by rw [x9x (by omega) (by omega)]; rfl) Cov.nil)), x6x, (HE.row rfl (by rw [a2j, hve]; simp) (HE.kill rfl HE.nil)), x4x, rfl⟩
  have hve : b2g n i = v.events := by rw [b2g, if_neg hc5, hg]
  rw [hve] at hol
  simp only [r5r] at hol
  refine dv 8 ?_
  refine w6w (zs := (p7p n ++ s4s n i ++ v.events).map z1z) rfl rfl v6v rfl z4z rfl rfl rfl (z8z (fun _ => rfl) _) (a7s _ _ _) (by have hb56 : T56.bytes = 56 := rfl; rw [List.length_map, hb56]; simp only [r5r, s1s, s3s]; omega) ?_
  refine dv 3 ?_
  refine u7u rfl rfl rfl (dv 1 ?_)
  exact ⟨i + 1, ⟨by omega, by omega⟩, [0, _, 0, 0, 0, _], (x8x 5 rfl (Cov.cons' (t := 6) rfl (by rw [x9x (by omega) (by omega)]; rfl) Cov.nil)), x6x, (HE.row rfl (by rw [a2j, hve]; simp) (HE.kill rfl HE.nil)), x4x, rfl⟩
 obtain rfl : i = 3 := by omega
 have hall : (p7p n ++ s4s n 3).length ≤ 5000000 := by rw [List.length_append]; omega
 refine dv 1 ?_
 refine r6r 5 rfl rfl (fun _ => rfl) ?_
 refine dv 1 ?_
 refine y1y (id := 2) v6v rfl z4z rfl (dv 5 fun K K' => ?_)
 refine x5x (ι := Nat) (fun j γ2 => [(7, .ref 2 (γ2 2)), (8, pI (j : Int))]) (fun j γ2 => [(2, ((γ2 2), .row 56 7 ((((p7p n ++ s4s n 3).take j).filter (a7v proc n.g)).map z1z))), (3, ((γ2 3), .dead)), (4, ((γ2 4), .dead))]) (fun j => j ≤ (p7p n ++ s4s n 3).length) (fun j => (p7p n ++ s4s n 3).length - j) (r2r [1, 2, 5] rfl) (a1p [0, 1, 5] rfl) 0 (by omega) [0, 0, _, _, _] x6x (HE.row rfl (by rw [List.take_zero]; rfl) (HE.kill rfl (HE.kill rfl HE.nil))) rfl fun j γ2 hi => ?_
 refine dc 6 (fun K K' => aS ?_ ?_)<;>intro h<;>try simp at h
 ·obtain rfl : j = (p7p n ++ s4s n 3).length := by omega
  rw [List.take_length]
  refine dv 1 ?_
  refine r6r 7 rfl rfl (fun _ => rfl) ?_
  refine dv 2 ?_
  refine x0x rfl rfl rfl (a1i true ((p7p n ++ s4s n 3).filter (a7v proc n.g)) (Nat.le_trans (List.length_filter_le _ _) (by rw [List.length_append]; omega))) ?_
  refine dv 2 ?_
  refine x2x rfl rfl rfl
 obtain ⟨p, hp⟩ := gE (p7p n ++ s4s n 3) j
 have hfl : (((p7p n ++ s4s n 3).take j).filter (a7v proc n.g)).length ≤ 5000000 := Nat.le_trans (List.length_filter_le _ _) (by rw [List.length_take]; omega)
 refine dc 12 (fun K K' => aS ?_ ?_)<;>intro hg10<;>try simp at hg10
 ·have hw : ¬ a7v proc n.g p = true := by simp only [a7v, decide_eq_true_eq]; omega
  refine dv 9 ?_
  try have hw : ¬ a7v proc n.g p = true := by simp only [a7v, decide_eq_true_eq]; omega
  refine dv 3 ?_
  refine u7u rfl rfl rfl (dv 1 ?_)
  exact ⟨j + 1, ⟨by omega, by omega⟩, [0, 0, _, _, _], (x8x 7 rfl (Cov.cons' (t := 8) rfl (by rw [x9x (by omega) (by omega)]; rfl) Cov.nil)), x6x, (HE.row rfl (by rw [r7r hp]; rw [if_neg hw, List.append_nil]) (HE.kill rfl (HE.kill rfl HE.nil))), x4x, rfl⟩
 have hw1 : p.to = proc := hg10
 refine dc 9 (aS ?_ ?_)<;>intro h<;>try simp at h
 ·try have hw : ¬ a7v proc n.g p = true := by simp only [a7v, decide_eq_true_eq]; omega
  refine dv 3 ?_
  refine u7u rfl rfl rfl (dv 1 ?_)
  exact ⟨j + 1, ⟨by omega, by omega⟩, [0, 0, _, _, _], (x8x 7 rfl (Cov.cons' (t := 8) rfl (by rw [x9x (by omega) (by omega)]; rfl) Cov.nil)), x6x, (HE.row rfl (by rw [r7r hp]; rw [if_neg hw, List.append_nil]) (HE.kill rfl (HE.kill rfl HE.nil))), x4x, rfl⟩
 have hw : a7v proc n.g p = true := by simp only [a7v, decide_eq_true_eq]; omega
 refine dv 6 ?_
 refine y5y (id := 3) v6v rfl z4z rfl rfl rfl rfl rfl rfl ?_
 refine y6y (zs := (((p7p n ++ s4s n 3).take j).filter (a7v proc n.g) ++ [p]).map z1z) rfl rfl v6v rfl z4z rfl rfl rfl rfl (by rfl) (u0u _ _ _) (by have hb56 : T56.bytes = 56 := rfl; rw [List.length_map, hb56]; simp only [r5r, s1s, s3s]; omega) ?_
 refine dv 3 ?_
 refine u7u rfl rfl rfl (dv 1 ?_)
 exact ⟨j + 1, ⟨by omega, by omega⟩, [0, 0, _, _, _], (x8x 7 rfl (Cov.cons' (t := 8) rfl (by rw [x9x (by omega) (by omega)]; rfl) Cov.nil)), x6x, (HE.row rfl (by rw [r7r hp]; rw [if_pos hw]) (HE.kill rfl (HE.kill rfl HE.nil))), x4x, rfl⟩
end
section
theorem w0w (c : Bool) (n : Nd) : a0j Tryz.prog 46 [.agg (u1u c n)] (.pv (.bool (kb (y0y n)))) := by
 refine pX Tryz.f46 [.pv (.bool (kb (y0y n)))] 1 ?_
 have hpl := a5g n.id 4
 refine dv 1 ?_
 refine y3y (id := 0) rfl rfl rfl (dv 5 fun K K' => ?_)
 refine x0x rfl rfl rfl (y7y ..) (dc 2 (aS ?_ ?_))<;>intro hg2<;>try simp at hg2
 ·have hX : ¬ (0 ≤ n.id ∧ n.id ≤ 2) := by omega
  refine dv 40 ?_
  refine x2x rfl ?_ rfl
  exact congrArg (fun b : Bool => [AV.pv (.bool b)]) (a4v (fun h => by obtain ⟨⟨q1, q2, q3, q4, q5, q6, q7, q8, q9⟩, q0⟩ := h; exact hX q1.1))
 have f1 : 0 ≤ n.id ∧ n.id ≤ 2 := hg2
 refine dv 2 ?_
 refine x0x rfl rfl rfl (z9z ..) (dv 0 ?_)
 refine x0x rfl rfl rfl (y7y ..) (dc 3 (aS ?_ ?_))<;>intro hg3<;>try simp at hg3
 ·have hX : ¬ (1 ≤ n.inc ∧ n.inc ≤ 9999) := by omega
  refine dv 33 ?_
  refine x2x rfl ?_ rfl
  exact congrArg (fun b : Bool => [AV.pv (.bool b)]) (a4v (fun h => by obtain ⟨⟨q1, q2, q3, q4, q5, q6, q7, q8, q9⟩, q0⟩ := h; exact hX q1.2.1))
 have f2 : 1 ≤ n.inc ∧ n.inc ≤ 9999 := hg3
 refine dv 2 ?_
 refine x0x rfl rfl rfl (y7y ..) (dc 3 (aS ?_ ?_))<;>intro hg4<;>try simp at hg4
 ·have hX : ¬ (0 ≤ n.g ∧ n.g ≤ 41) := by omega
  refine dv 27 ?_
  refine x2x rfl ?_ rfl
  exact congrArg (fun b : Bool => [AV.pv (.bool b)]) (a4v (fun h => by obtain ⟨⟨q1, q2, q3, q4, q5, q6, q7, q8, q9⟩, q0⟩ := h; exact hX q1.2.2.1))
 have f3 : 0 ≤ n.g ∧ n.g ≤ 41 := hg4
 refine dv 2 ?_
 refine x0x rfl rfl rfl (z9z ..) (dv 0 ?_)
 refine x0x rfl rfl rfl (y7y ..) (dc 3 (aS ?_ ?_))<;>intro hg5<;>try simp at hg5
 ·have hX : ¬ (0 ≤ n.led ∧ n.led ≤ 9999) := by omega
  refine dv 20 ?_
  refine x2x rfl ?_ rfl
  exact congrArg (fun b : Bool => [AV.pv (.bool b)]) (a4v (fun h => by obtain ⟨⟨q1, q2, q3, q4, q5, q6, q7, q8, q9⟩, q0⟩ := h; exact hX q1.2.2.2.1))
 have f4 : 0 ≤ n.led ∧ n.led ≤ 9999 := hg5
 refine dv 2 ?_
 refine x0x rfl rfl rfl (a3q ..) (dv 0 ?_)
 refine x0x rfl rfl rfl (a3m ..) (dc 3 (aS ?_ ?_))<;>intro hg6<;>try simp at hg6
 ·have hX : ¬ a6y okE a2g n.kept 100 = true := by simpa using hg6
  refine dv 13 ?_
  refine x2x rfl ?_ rfl
  exact congrArg (fun b : Bool => [AV.pv (.bool b)]) (a4v (fun h => by obtain ⟨⟨q1, q2, q3, q4, q5, q6, q7, q8, q9⟩, q0⟩ := h; exact hX q2))
 have f5 : a6y okE a2g n.kept 100 = true := hg6
 refine dv 2 ?_
 refine x0x rfl rfl rfl (a7g ..) (dc 3 (aS ?_ ?_))<;>intro hg7<;>try simp at hg7
 ·have hX : ¬ a6y okO b1n n.outs 96 = true := by simpa using hg7
  refine dv 7 ?_
  refine x2x rfl ?_ rfl
  exact congrArg (fun b : Bool => [AV.pv (.bool b)]) (a4v (fun h => by obtain ⟨⟨q1, q2, q3, q4, q5, q6, q7, q8, q9⟩, q0⟩ := h; exact hX q3))
 have f6 : a6y okO b1n n.outs 96 = true := hg7
 refine dv 1 ?_
 refine x0x rfl rfl rfl (c2x ..) (dc 2 (aI ?_ ?_))<;>intro hc8<;>try simp at hc8
 ·try have hX : ¬ c6v n := a0p (by simpa using hc8)
  refine dv 3 ?_
  refine x2x rfl ?_ rfl
  exact congrArg (fun b : Bool => [AV.pv (.bool b)]) (a4v (fun h => by obtain ⟨⟨q1, q2, q3, q4, q5, q6, q7, q8, q9⟩, q0⟩ := h; exact hX ⟨q6, q7, q1.2.2.2.2.1, q1.2.2.2.2.2.1, q1.2.2.2.2.2.2, q9⟩))
 have fF : c6v n := a0o.1 (by simpa using hc8)
 have fo96 := (p4p f6).1
 refine dv 1 ?_
 refine q8q (ι := Unit) (fun _i γ1 => []) (fun _i γ1 => []) (fun _i => ∀ (i : Nat) a, n.outs[i]? = some a → a.time < n.g) (x8x 1 rfl Cov.nil) (w9w 0 rfl HE.nil) ?_ fun _i γ1 hi => ?_
 ·refine dc 6 (aS ?_ ?_)<;>intro hg9<;>try simp at hg9
  ·have g0 : n.outs.length = 0 := by (rw [hg9]; rfl)
   have fO : ∀ (i : Nat) a, n.outs[i]? = some a → a.time < n.g := fun i a ha => by have := (List.getElem?_eq_some_iff.1 ha).1; omega
   refine dv 13 ?_
   try have fO : ∀ (i : Nat) a, n.outs[i]? = some a → a.time < n.g := c9z f6 ho (by omega)
   refine dv 1 ?_
   exact ⟨(), fO, [], x6x, x6x, x4x, x4x, rfl⟩
  have g0 : 0 < n.outs.length := by omega
  obtain ⟨o, ho⟩ := gE n.outs (n.outs.length - 1)
  refine dv 5 ?_
  refine r1r (b := 1) rfl rfl (by omega) (by omega) (dc 7 (aS ?_ ?_))<;>intro u<;>try simp at u
  ·try have fO : ∀ (i : Nat) a, n.outs[i]? = some a → a.time < n.g := c9z f6 ho (by omega)
   refine dv 1 ?_
   exact ⟨(), fO, [], x6x, x6x, x4x, x4x, rfl⟩
  have hX : ¬ o.time < n.g := by omega
  refine dv 3 ?_
  refine x2x rfl ?_ rfl
  exact congrArg (fun b : Bool => [AV.pv (.bool b)]) (a4v (fun h => by obtain ⟨⟨q1, q2, q3, q4, q5, q6, q7, q8, q9⟩, q0⟩ := h; exact hX (q4 _ _ ho)))
 ·try dsimp only [b2t, b2u]
  have fO := hi
  refine dv 3 ?_
  refine x0x rfl rfl rfl (b3d ..) (dc 9 (fun K K' => aI ?_ ?_))<;>intro u<;>try simp at u
  ·refine dv 3 ?_
   refine x2x rfl ?_ rfl
   exact congrArg (fun b : Bool => [AV.pv (.bool b)]) (a4v (fun h => by obtain ⟨⟨q1, q2, q3, q4, q5, q6, q7, q8, q9⟩, q0⟩ := h; omega))
  have fL : n.lanes.length = (w7w n.id 4).length := by omega
  refine dv 5 fun K K' => ?_
  refine x5x (ι := Nat) (fun i γ2 => [(4, pI (i : Int))]) (fun i γ2 => []) (fun i => i ≤ (w7w n.id 4).length ∧ c6w n.lanes (fun j l => (w7w n.id 4)[j]? = some l.proc ∧ a5n l = true) i) (fun i => (w7w n.id 4).length - i) (r2r [1, 3] rfl) (w9w 0 rfl HE.nil) 0 ⟨by omega, a0v⟩ [] x6x x4x rfl fun i γ2 hi => ?_
  obtain ⟨b1, b2⟩ := hi
  refine dc 6 (fun K K' => aI ?_ ?_)<;>intro u<;>try simp at u
  ·obtain ⟨l, hl⟩ := gE n.lanes i
   obtain ⟨p, hp⟩ := gE (w7w n.id 4) i
   refine dv 9 fun K K' => ?_
   refine x0x rfl rfl rfl (a3r ..) (dc 2 (aS ?_ ?_))<;>intro hg18<;>try simp at hg18
   ·have hX : ¬ a5n l = true := by simpa using hg18
    refine dv 16 ?_
    refine x2x rfl ?_ rfl
    exact congrArg (fun b : Bool => [AV.pv (.bool b)]) (a4v (fun h => by obtain ⟨⟨q1, q2, q3, q4, q5, q6, q7, q8, q9⟩, q0⟩ := h; exact hX (q8 _ _ hl).2))
   have hlo : a5n l = true := hg18
   refine dc 13 (aS ?_ ?_)<;>intro hc19<;>try simp at hc19
   ·have hpe : l.proc = p := hc19
    refine dv 3 ?_
    refine x7x (b := 1) rfl rfl (by omega) (dv 1 ?_)
    exact ⟨i + 1, ⟨⟨by omega, r0r b2 hl ⟨by rw [hp, hpe], hlo⟩⟩, by omega⟩, [], x6x, x6x, x4x, x4x, rfl⟩
   try have hX : ¬ l.proc = p := hc19
   refine dv 3 ?_
   refine x2x rfl ?_ rfl
   exact congrArg (fun b : Bool => [AV.pv (.bool b)]) (a4v (fun h => by obtain ⟨⟨q1, q2, q3, q4, q5, q6, q7, q8, q9⟩, q0⟩ := h; have := (q8 _ _ hl).1; rw [hp] at this; exact hX (Option.some.inj this).symm))
  have fN : e4x n := a2i b2 (by omega)
  refine dv 5 fun K K' => ?_
  refine x5x (ι := Nat) (fun j γ3 => [(5, pI (j : Int))]) (fun j γ3 => []) (fun j => j ≤ (w7w n.id 4).length ∧ c6w n.lanes (fun j l => ∀ p, (w7w n.id 4)[j]? = some p → l.done.length ≤ same l.done (a1k n p) ∧ (a1k n p).length ≤ 100) j) (fun j => (w7w n.id 4).length - j) (r2r [1, 3] rfl) (w9w 0 rfl HE.nil) 0 ⟨by omega, a0v⟩ [] x6x x4x rfl fun j γ3 hi => ?_
  obtain ⟨d1, d2⟩ := hi
  refine dc 6 (fun K K' => aS ?_ ?_)<;>intro u<;>try simp at u
  ·have fC := fun (i : Nat) p l (a : (w7w n.id 4)[i]? = some p) (b : n.lanes[i]? = some l) => a2i d2 (by omega) i l b p a
   refine dv 4 ?_
   refine x2x rfl ?_ rfl
   exact congrArg (fun b : Bool => [AV.pv (.bool b)]) (e3t ⟨⟨⟨f1, f2, f3, f4, fF.2.2.1, fF.2.2.2.1, fF.2.2.2.2.1⟩, f5, f6, fO, fL, fF.1, fF.2.1, fN, fF.2.2.2.2.2⟩, fC⟩)
  obtain ⟨l, hl⟩ := gE n.lanes j
  obtain ⟨p, hp⟩ := gE (w7w n.id 4) j
  obtain ⟨hdl, _⟩ := a1g (fN j l hl).2
  refine dv 15 fun K K' => ?_
  refine x0x rfl rfl rfl (a4d c n p (by have := c6x f5 (by omega) fN; have := c6y fF.1 fF.2.1 fF.2.2.2.2.2; omega) (by omega) fF.1) ?_
  refine x0x rfl rfl rfl (a9b ..) (dc 9 (aS ?_ ?_))<;>intro u<;>try simp at u
  ·refine dv 14 ?_
   refine x2x rfl ?_ rfl
   exact congrArg (fun b : Bool => [AV.pv (.bool b)]) (a4v (fun h => by obtain ⟨⟨q1, q2, q3, q4, q5, q6, q7, q8, q9⟩, q0⟩ := h; have := q0 _ _ _ hp hl; omega))
  refine dv 6 ?_
  refine x0x rfl rfl rfl (a4d c n p (by have := c6x f5 (by omega) fN; have := c6y fF.1 fF.2.1 fF.2.2.2.2.2; omega) (by omega) fF.1) ?_
  refine dv 1 ?_
  refine x0x rfl rfl rfl (a3q ..) (dc 2 (aS ?_ ?_))<;>intro u<;>try simp at u
  ·refine dv 3 ?_
   refine x7x (b := 1) rfl rfl (by omega) (dv 1 ?_)
   exact ⟨j + 1, ⟨⟨by omega, r0r d2 hl (fun p2 hp2 => by rw [hp] at hp2; cases hp2; omega)⟩, by omega⟩, [], x6x, x6x, x4x, x4x, rfl⟩
  refine dv 3 ?_
  refine x2x rfl ?_ rfl
  exact congrArg (fun b : Bool => [AV.pv (.bool b)]) (a4v (fun h => by obtain ⟨⟨q1, q2, q3, q4, q5, q6, q7, q8, q9⟩, q0⟩ := h; have := q0 _ _ _ hp hl; omega))
end
section
theorem a7y (c : Bool) (n : Nd) (t : Nat) (ht : t < 3) (hk3 : n.known.length = 3) (hs : (p7p n).length ≤ 5000000) (hlen : n.lanes.length ≤ 1048576) : a0j Tryz.prog 135 [.agg (u1u c n), .pv (.int .i64 (t : Int))] (a0m true (a1l n (t : Int))) := by
 refine pX Tryz.f135 [a0m true (a1l n (t : Int))] 5 ?_
 obtain ⟨kn, hkn⟩ := gE n.known t
 rw [d0a hkn]
 refine dv 1 ?_
 refine y3y (id := 0) rfl rfl rfl (dv 3 ?_)
 refine rlM [4] [_] (b4s c n (by omega) hlen) rfl rfl rfl ?_
 refine dv 1 ?_
 refine r6r 5 rfl rfl (fun _ => rfl) ?_
 refine dv 1 ?_
 refine y1y (id := 1) v6v rfl z4z rfl (dv 5 fun K K' => ?_)
 refine x5x (ι := Nat) (fun j γ1 => [(6, .ref 1 (γ1 1)), (7, pI (j : Int))]) (fun j γ1 => [(1, ((γ1 1), .row 56 7 ((((p7p n).take j).filter (a7b (t : Int) kn)).map z1z))), (2, ((γ1 2), .dead)), (3, ((γ1 3), .dead))]) (fun j => j ≤ (p7p n).length) (fun j => (p7p n).length - j) (r2r [1, 2, 5] rfl) (a1p [0, 4] rfl) 0 (by omega) [0, _, _, _] x6x (HE.row rfl (by rw [List.take_zero]; rfl) (HE.kill rfl (HE.kill rfl HE.nil))) rfl fun j γ1 hi => ?_
 refine dc 6 (fun K K' => aS ?_ ?_)<;>intro h<;>try simp at h
 ·obtain rfl : j = (p7p n).length := by omega
  rw [List.take_length]
  refine dv 1 ?_
  refine r6r 6 rfl rfl (fun _ => rfl) ?_
  refine dv 2 ?_
  refine x0x rfl rfl rfl (a1i true ((p7p n).filter (a7b (t : Int) kn)) (Nat.le_trans (List.length_filter_le _ _) (by omega))) ?_
  refine dv 2 ?_
  refine x2x rfl rfl rfl
 obtain ⟨p, hp⟩ := gE (p7p n) j
 have hfl : (((p7p n).take j).filter (a7b (t : Int) kn)).length ≤ 5000000 := Nat.le_trans (List.length_filter_le _ _) (by rw [List.length_take]; omega)
 refine dv 9 fun K K' => ?_
 refine x0x rfl rfl rfl (a1m ..) (dc 3 (aS ?_ ?_))<;>intro hg5<;>try simp at hg5
 ·have hw : ¬ a7b (t : Int) kn p = true := by simp only [a7b, decide_eq_true_eq]; omega
  refine dv 12 ?_
  try have hw : ¬ a7b (t : Int) kn p = true := by simp only [a7b, decide_eq_true_eq]; omega
  refine dv 3 ?_
  refine u7u rfl rfl rfl (dv 1 ?_)
  exact ⟨j + 1, ⟨by omega, by omega⟩, [0, _, _, _], (x8x 6 rfl (Cov.cons' (t := 7) rfl (by rw [x9x (by omega) (by omega)]; rfl) Cov.nil)), x6x, (HE.row rfl (by rw [r7r hp]; rw [if_neg hw, List.append_nil]) (HE.kill rfl (HE.kill rfl HE.nil))), x4x, rfl⟩
 have hw1 : s7s p.to = (t : Int) := hg5
 refine dc 12 (aS ?_ ?_)<;>intro h<;>try simp at h
 ·try have hw : ¬ a7b (t : Int) kn p = true := by simp only [a7b, decide_eq_true_eq]; omega
  refine dv 3 ?_
  refine u7u rfl rfl rfl (dv 1 ?_)
  exact ⟨j + 1, ⟨by omega, by omega⟩, [0, _, _, _], (x8x 6 rfl (Cov.cons' (t := 7) rfl (by rw [x9x (by omega) (by omega)]; rfl) Cov.nil)), x6x, (HE.row rfl (by rw [r7r hp]; rw [if_neg hw, List.append_nil]) (HE.kill rfl (HE.kill rfl HE.nil))), x4x, rfl⟩
 have hw : a7b (t : Int) kn p = true := by simp only [a7b, decide_eq_true_eq]; omega
 refine dv 6 ?_
 refine y5y (id := 2) v6v rfl z4z rfl rfl rfl rfl rfl rfl ?_
 refine y6y (zs := (((p7p n).take j).filter (a7b (t : Int) kn) ++ [p]).map z1z) rfl rfl v6v rfl z4z rfl rfl rfl rfl (by rfl) (u0u _ _ _) (by (simp only [a0b, r5r, s1s, s3s, a0t, a3b, T56] at *; omega)) ?_
 refine dv 3 ?_
 refine u7u rfl rfl rfl (dv 1 ?_)
 exact ⟨j + 1, ⟨by omega, by omega⟩, [0, _, _, _], (x8x 6 rfl (Cov.cons' (t := 7) rfl (by rw [x9x (by omega) (by omega)]; rfl) Cov.nil)), x6x, (HE.row rfl (by rw [r7r hp]; rw [if_pos hw]) (HE.kill rfl (HE.kill rfl HE.nil))), x4x, rfl⟩
end
section
theorem c4d (c c' : Bool) (l l' : List Ev) : a0j Tryz.prog 251 [a0m c l, a0m c' l'] (.pv (.bool (decide (l = l')))) := by
 refine pX Tryz.f251 [.pv (.bool (decide (l = l')))] 0 ?_
 refine u9u 0 rfl fun hlen => ?_
 refine dc 9 (fun K K' => aI ?_ ?_)<;>intro o<;>try simp at o
 ·refine dv 3 ?_
  refine x2x rfl ?_ rfl
  exact f3v (by omega)
 refine dv 5 fun K K' => ?_
 refine x5x (ι := Nat) (fun i γ1 => [(5, pI (i : Int))]) (fun i γ1 => []) (fun i => i ≤ l.length ∧ l.length = l'.length ∧ l.take i = l'.take i) (fun i => l.length - i) (r2r [0, 1] rfl) HE.nil 0 ⟨by omega, by omega, rfl⟩ [] x6x x4x rfl fun i γ1 hi => ?_
 obtain ⟨h1, h2, h3⟩ := hi
 refine dc 6 (fun K K' => aS ?_ ?_)<;>intro o<;>try simp at o
 ·refine dv 4 ?_
  refine x2x rfl ?_ rfl
  exact eqT h3 (by omega) (by omega)
 refine dv 6 fun K K' => ?_
 obtain ⟨x, hx⟩ := gE l i
 refine dv 4 ?_
 obtain ⟨y, hy⟩ := gE l' i
 refine dv 2 ?_
 refine b8k rfl rfl (by intro p q h; cases h) (.inr rfl) (f2c _ _ _ _) ?_
 refine dc 0 (aS ?_ ?_)<;>intro hc7<;>try simp at hc7
 ·have hxy : x = y := by simpa [a6u] using hc7
  refine dv 3 ?_
  refine a0g (.int .i64 ((i + 1 : Nat) : Int)) rfl rfl rfl (a8v rfl (by omega) (by omega) (by have := hlen; omega)) ?_
  refine dv 1 ?_
  exact ⟨i + 1, ⟨⟨by omega, h2, b2n h3 hx hy (by assumption)⟩, by omega⟩, [], x6x, x6x, x4x, x4x, rfl⟩
 have hxy : ¬ x = y := by simpa [a6u] using hc7
 refine dv 3 ?_
 refine x2x rfl ?_ rfl
 exact f3w hx hy (by assumption)
theorem b1j (c : Bool) (a b : List Ev) (g : Int) : a0j Tryz.prog 169 [a0m c a, a0m c b, .pv (.int .i64 g)] (.pv (.int .i64 (chg g a (chg g b 41 a) b))) := by
 refine pX Tryz.f169 [.pv (.int .i64 (chg g a (chg g b 41 a) b))] 0 ?_
 refine dv 8 fun K K' => ?_
 refine x5x (ι := Nat) (fun k γ1 => [(0, a0m c (swK a b k)), (1, a0m c (swK b a k)), (7, pI (e7w g a b k)), (8, pI (k : Int))]) (fun k γ1 => []) (fun k => k ≤ 2) (fun k => 2 - k) (x8x 2 rfl Cov.nil) HE.nil 0 (by omega) [] (Cov.cons' (t := 0) rfl (rfl) (Cov.cons' (t := 1) rfl (rfl) (Cov.cons' (t := 7) rfl (rfl) (x8x 8 rfl Cov.nil)))) x4x rfl fun k γ1 hi => ?_
 refine dc 4 (fun K K' => aS ?_ ?_)<;>intro o<;>try simp at o
 ·obtain rfl : k = 2 := by omega
  refine dv 5 ?_
  exact x2x rfl rfl rfl
 refine dv 7 fun K K' K K' => ?_
 refine u9u 0 rfl fun hlen0 => ?_
 refine x5x (ι := Nat) (fun i γ2 => [(7, pI (chg g (swK b a k) (e7w g a b k) ((swK a b k).take i))), (9, pI (i : Int))]) (fun i γ2 => []) (fun i => i ≤ (swK a b k).length) (fun i => (swK a b k).length - i) (r2r [0, 1, 2, 8] rfl) HE.nil 0 (by omega) [] (Cov.cons' (t := 7) rfl (by rw [List.take_zero]; rfl) (x8x 9 rfl Cov.nil)) x4x rfl fun i γ2 hi => ?_
 refine dc 6 (fun K K' => aS ?_ ?_)<;>intro o<;>try simp at o
 ·obtain rfl : i = (swK a b k).length := by omega
  refine dv 12 ?_
  refine x7x (b := 1) rfl rfl (by omega) (dv 1 ?_)
  exact ⟨k + 1, ⟨by omega, by omega⟩, [], (Cov.cons' (t := 0) rfl (by rw [d4x (by omega)]) (Cov.cons' (t := 1) rfl (by rw [d4x (by omega)]) (Cov.cons' (t := 7) rfl (by rw [e1i (by omega), List.take_length]) (x8x 8 rfl Cov.nil)))), x6x, x4x, x4x, rfl⟩
 obtain ⟨x, hx⟩ := gE (swK a b k) i
 refine dv 9 fun K K' K K' => ?_
 refine u9u 1 rfl fun hlen1 => ?_
 refine x5x (ι := Nat) (fun j γ3 => [(10, .pv (.bool (decide (x ∈ (swK b a k).take j)))), (11, pI (j : Int))]) (fun j γ3 => []) (fun j => j ≤ (swK b a k).length) (fun j => (swK b a k).length - j) (r2r [0, 1, 2, 7, 8, 9] rfl) HE.nil 0 (by omega) [] (Cov.cons' (t := 10) rfl (by simp) (x8x 11 rfl Cov.nil)) x4x rfl fun j γ3 hi => ?_
 refine dc 6 (fun K K' => aI ?_ ?_)<;>intro o<;>try simp at o
 ·obtain ⟨z, hz⟩ := gE (swK b a k) j
  refine dc 6 (fun K K' => aS ?_ ?_)<;>intro hg13<;>try simp at hg13
  ·have hin : x ∈ (swK b a k).take j := by simpa using hg13
   refine dv 12 ?_
   refine x7x (b := 1) rfl rfl (by omega) (dv 1 ?_)
   exact ⟨j + 1, ⟨by omega, by omega⟩, [], (Cov.cons' (t := 10) rfl (by rw [z5z hz]; (simp [hin]; done)) (x8x 11 rfl Cov.nil)), x6x, x4x, x4x, rfl⟩
  have hin : ¬ x ∈ (swK b a k).take j := by simpa using hg13
  refine dv 8 ?_
  refine b8k rfl rfl (by intro a c h; cases h) (.inl rfl) (f2c _ _ _ _) ?_
  refine dv 4 ?_
  refine x7x (b := 1) rfl rfl (by omega) (dv 1 ?_)
  exact ⟨j + 1, ⟨by omega, by omega⟩, [], (Cov.cons' (t := 10) rfl (by rw [z5z hz]; (simp [hin]; rfl)) (x8x 11 rfl Cov.nil)), x6x, x4x, x4x, rfl⟩
 obtain rfl : j = (swK b a k).length := by omega
 rw [List.take_length]
 refine dc 5 (aS ?_ ?_)<;>intro hg14<;>try simp at hg14
 ·have hn : ¬ (g ≤ x.time ∧ x.time < chg g (swK b a k) (e7w g a b k) ((swK a b k).take i) ∧ ¬ x ∈ swK b a k) := fun q => q.2.2 (by simpa using hg14)
  refine dv 20 ?_
  refine x7x (b := 1) rfl rfl (by omega) (dv 1 ?_)
  exact ⟨i + 1, ⟨by omega, by omega⟩, [], (Cov.cons' (t := 7) rfl (by rw [b7o hx, if_neg hn]) (x8x 9 rfl Cov.nil)), x6x, x4x, x4x, rfl⟩
 have hm : ¬ x ∈ swK b a k := by simpa using hg14
 refine dc 9 (aS ?_ ?_)<;>intro o<;>try simp at o
 ·have hn : ¬ (g ≤ x.time ∧ x.time < chg g (swK b a k) (e7w g a b k) ((swK a b k).take i) ∧ ¬ x ∈ swK b a k) := fun q => (by have := q.1; omega)
  refine dv 11 ?_
  refine x7x (b := 1) rfl rfl (by omega) (dv 1 ?_)
  exact ⟨i + 1, ⟨by omega, by omega⟩, [], (Cov.cons' (t := 7) rfl (by rw [b7o hx, if_neg hn]) (x8x 9 rfl Cov.nil)), x6x, x4x, x4x, rfl⟩
 refine dc 8 (aS ?_ ?_)<;>intro o<;>try simp at o
 ·have hn : ¬ (g ≤ x.time ∧ x.time < chg g (swK b a k) (e7w g a b k) ((swK a b k).take i) ∧ ¬ x ∈ swK b a k) := by exact fun q => (by have := q.2.1; omega)
  refine dv 3 ?_
  refine x7x (b := 1) rfl rfl (by omega) (dv 1 ?_)
  exact ⟨i + 1, ⟨by omega, by omega⟩, [], (Cov.cons' (t := 7) rfl (by rw [b7o hx, if_neg hn]) (x8x 9 rfl Cov.nil)), x6x, x4x, x4x, rfl⟩
 have hy : g ≤ x.time ∧ x.time < chg g (swK b a k) (e7w g a b k) ((swK a b k).take i) ∧ ¬ x ∈ swK b a k := ⟨by omega, by omega, hm⟩
 refine dv 9 ?_
 refine x7x (b := 1) rfl rfl (by omega) (dv 1 ?_)
 exact ⟨i + 1, ⟨by omega, by omega⟩, [], (Cov.cons' (t := 7) rfl (by (rw [b7o hx, if_pos hy] <;> rfl)) (x8x 9 rfl Cov.nil)), x6x, x4x, x4x, rfl⟩
theorem b3e (n : Nd) (hw : wk n) : Meth Tryz.prog 171 3 [0, 1, 2] [.agg [pI n.id, .pv (.bool n.up), pI n.inc, pI n.g, .ref 0 0, a0m true n.kept, r8r true n.outs, pI n.led, pI n.version, .ref 1 0, .ref 2 0, pI n.round, pI n.low]] [(0, (0, .row 44 5 ((n.lanes).map (r4r true)))), (1, (0, .row 190 3 ((n.views).map (a4b true)))), (2, (0, .row 3 1 (n.known.map a6j)))] (.agg [pI (nl n (q3q n n.lanes)).id, .pv (.bool (nl n (q3q n n.lanes)).up), pI (nl n (q3q n n.lanes)).inc, pI (nl n (q3q n n.lanes)).g, .ref 0 0, a0m true (nl n (q3q n n.lanes)).kept, r8r true (nl n (q3q n n.lanes)).outs, pI (nl n (q3q n n.lanes)).led, pI (nl n (q3q n n.lanes)).version, .ref 1 0, .ref 2 0, pI (nl n (q3q n n.lanes)).round, pI (nl n (q3q n n.lanes)).low]) [(0, (0, .row 44 5 ((q3q n n.lanes).map (r4r true))))] := by
 refine mX Tryz.f171 [.agg [pI (nl n (q3q n n.lanes)).id, .pv (.bool (nl n (q3q n n.lanes)).up), pI (nl n (q3q n n.lanes)).inc, pI (nl n (q3q n n.lanes)).g, .ref 0 0, a0m true (nl n (q3q n n.lanes)).kept, r8r true (nl n (q3q n n.lanes)).outs, pI (nl n (q3q n n.lanes)).led, pI (nl n (q3q n n.lanes)).version, .ref 1 0, .ref 2 0, pI (nl n (q3q n n.lanes)).round, pI (nl n (q3q n n.lanes)).low]] 3 2 fun γ => ?_
 refine dv 1 ?_
 refine y3y (id := 3) rfl rfl rfl (x3x (id := 4) u6u q4q rfl (dv 4 fun K K' => ?_))
 refine x5x (ι := List La × Bool) (fun p γ1 => [(3, .pv (.bool (p.2)))]) (fun p γ1 => [(0, ((γ 0), .row 44 5 ((p.1).map (r4r true))))]) (fun p => (p.2 = true → q3q n p.1 = q3q n n.lanes) ∧ (p.2 = false → p.1 = q3q n n.lanes) ∧ wk (nl n p.1)) (fun p => 2 * c5h p.1 + p.2.toNat) (r2r [1, 2] rfl) (a1p [1, 2, 3, 4] rfl) (n.lanes, true) ⟨fun _ => rfl, fun h => (by cases h), hw⟩ [] x6x x4x rfl fun p γ1 hi => ?_
 obtain ⟨ls, q⟩ := p
 obtain ⟨h1, h2, h3⟩ := hi
 dsimp only at h1 h2 h3 ⊢
 refine dc 3 (fun K K' => aS ?_ ?_)<;>intro hc3<;>try simp at hc3
 ·have hq : q = false := by simpa using hc3
  subst hq
  have hfin : ls = q3q n n.lanes := h2 rfl
  refine dv 4 ?_
  subst hfin
  refine dv 1 ?_
  exact ⟨[γ 0, γ 1, γ 2], rfl, rfl, x4x⟩
 have hq : q = true := hc3
 subst hq
 refine dv 7 ?_
 refine x5x (ι := Nat) (fun i γ2 => [(3, .pv (.bool (b0q n ls i))), (4, pI (i : Int))]) (fun i γ2 => [(0, ((γ 0), .row 44 5 ((a2n n ls i).map (r4r true))))]) (fun i => i ≤ ls.length) (fun i => ls.length - i) (r2r [1, 2] rfl) (a1p [1, 2, 3, 4] rfl) 0 (by omega) [] (Cov.cons' (t := 3) rfl (rfl) (x8x 4 rfl Cov.nil)) x4x rfl fun i γ2 hi => ?_
 refine dc 7 (fun K K' => aS ?_ ?_)<;>intro o<;>try simp at o
 ·have hpl : (a2n n ls i).length = ls.length := c7h n ls i
  obtain rfl : i = ls.length := by omega
  refine dv 1 ?_
  exact ⟨(a2n n ls ls.length, b0q n ls ls.length), ⟨⟨fun h => (c7i h).trans (h1 rfl), fun h => (c0n h).trans (h1 rfl), c2i h3 _⟩, (f0g n ls ls.length)⟩, [], x6x, x6x, x4x, x4x, rfl⟩
 have hpl : (a2n n ls i).length = ls.length := c7h n ls i
 obtain ⟨l, hp⟩ := gE (a2n n ls i) i
 have h4 := c2i h3 i
 have h41 : (a2n n ls i).length ≤ 4 := h4.1
 have hb4 := h4.2.2.2.2.1 l (List.mem_of_getElem? hp)
 refine dv 7 fun K K' => ?_
 refine z0z (j := i) rfl rfl a8u rfl a0y rfl rfl (z2z hp) ?_
 refine dv 5 ?_
 refine z0z (j := i) rfl rfl a8u rfl a0y rfl rfl (z2z hp) ?_
 refine dv 2 ?_
 refine b5i rfl rfl rfl (d2o (n := nl n (a2n n ls i)) rfl rfl rfl (.cl rfl .nil)) (a4d false (nl n (a2n n ls i)) l.proc (f0c h4) (by have := h4.1; omega) h4.2.2.1) (a9w _) ?_
 refine x0x rfl rfl rfl (a9b true true l (a1k (nl n (a2n n ls i)) l.proc)) ?_
 refine dv 6 ?_
 refine z0z (j := i) rfl rfl a8u rfl a0y rfl rfl (z2z hp) ?_
 refine dc 4 (aS ?_ ?_)<;>intro o<;>try simp at o
 ·have hk := e1c (n := n) hp (by show ¬ same l.done (a1k (nl n (a2n n ls i)) l.proc) < l.done.length; omega)
  refine dv 3 ?_
  refine u7u rfl rfl rfl (dv 1 ?_)
  exact ⟨i + 1, ⟨by omega, by omega⟩, [], (Cov.cons' (t := 3) rfl (by rw [c5i, hk.2, Bool.or_false]) (Cov.cons' (t := 4) rfl (by rw [x9x (by omega) (by omega)]; rfl) Cov.nil)), x6x, (HE.row rfl (by rw [d0f, hk.1]) HE.nil), x4x, rfl⟩
 have hk := e1b (n := n) hp (by show same l.done (a1k (nl n (a2n n ls i)) l.proc) < l.done.length; omega)
 refine dv 7 ?_
 refine z0z (j := i) rfl rfl a8u rfl a0y rfl rfl (z2z hp) ?_
 refine dv 2 ?_
 refine x0x rfl rfl rfl (a2t true l 0 (keep n (a2n n ls i) l) (by omega) (by omega) (by have := f0d n (a2n n ls i) l; omega) (fun p hp => by have := hb4.2 p hp; omega)) ?_
 refine z0z (j := i) rfl rfl a8u rfl a0y rfl rfl (z2z hp) ?_
 refine v5v (el' := a1f l 0 (keep n (a2n n ls i) l)) rfl rfl a0y rfl rfl rfl hp rfl (q7q rfl) rfl rfl ?_
 refine dv 4 ?_
 refine u7u rfl rfl rfl (dv 1 ?_)
 exact ⟨i + 1, ⟨by omega, by omega⟩, [], (Cov.cons' (t := 3) rfl (by rw [c5i, hk.2, Bool.or_true]) (Cov.cons' (t := 4) rfl (by rw [x9x (by omega) (by omega)]; rfl) Cov.nil)), x6x, (HE.row rfl (by rw [d0f, hk.1]) HE.nil), x4x, rfl⟩
theorem b1k (c : Bool) (n m : Nd) (hn : wk n) (hm : wk m) (hid : n.id = m.id) (hv : 0 ≤ n.version ∧ n.version ≤ 9998) : Meth Tryz.prog 170 3 [0, 1, 2] [.agg (u1u c n), .agg [pI m.id, .pv (.bool m.up), pI m.inc, pI m.g, .ref 0 0, a0m true m.kept, r8r true m.outs, pI m.led, pI m.version, .ref 1 0, .ref 2 0, pI m.round, pI m.low]] [(0, (0, .row 44 5 ((m.lanes).map (r4r true)))), (1, (0, .row 190 3 ((m.views).map (a4b true)))), (2, (0, .row 3 1 (m.known.map a6j)))] (.agg [pI ({ m with version := a5o n m 3 } : Nd).id, .pv (.bool ({ m with version := a5o n m 3 } : Nd).up), pI ({ m with version := a5o n m 3 } : Nd).inc, pI ({ m with version := a5o n m 3 } : Nd).g, .ref 0 0, a0m true ({ m with version := a5o n m 3 } : Nd).kept, r8r true ({ m with version := a5o n m 3 } : Nd).outs, pI ({ m with version := a5o n m 3 } : Nd).led, pI ({ m with version := a5o n m 3 } : Nd).version, .ref 1 0, .ref 2 0, pI ({ m with version := a5o n m 3 } : Nd).round, pI ({ m with version := a5o n m 3 } : Nd).low]) [] := by
 refine mX Tryz.f170 [.agg [pI ({ m with version := a5o n m 3 } : Nd).id, .pv (.bool ({ m with version := a5o n m 3 } : Nd).up), pI ({ m with version := a5o n m 3 } : Nd).inc, pI ({ m with version := a5o n m 3 } : Nd).g, .ref 0 0, a0m true ({ m with version := a5o n m 3 } : Nd).kept, r8r true ({ m with version := a5o n m 3 } : Nd).outs, pI ({ m with version := a5o n m 3 } : Nd).led, pI ({ m with version := a5o n m 3 } : Nd).version, .ref 1 0, .ref 2 0, pI ({ m with version := a5o n m 3 } : Nd).round, pI ({ m with version := a5o n m 3 } : Nd).low]] 3 3 fun γ => ?_
 refine dv 1 ?_
 refine y3y (id := 3) rfl rfl rfl (y3y (id := 4) rfl rfl rfl (x3x (id := 5) u6u q4q rfl (dv 4 fun K K' => ?_)))
 refine x5x (ι := Nat) (fun k γ1 => [(5, pI (k : Int))]) (fun k γ1 => [(4, ((0 + 1), .box 65 [pI m.id, .pv (.bool m.up), pI m.inc, pI m.g, .ref 0 (γ 0), a0m true m.kept, r8r true m.outs, pI m.led, pI (a5o n m k), .ref 1 (γ 1), .ref 2 (γ 2), pI m.round, pI m.low]))]) (fun k => k ≤ 3) (fun k => 3 - k) (r2r [2, 3, 4] rfl) (a1p [0, 1, 2, 3, 5] rfl) 0 (by omega) [] x6x (HE.box rfl (by rfl) HE.nil) rfl fun k γ1 hi => ?_
 refine dc 4 (fun K K' => aS ?_ ?_)<;>intro o<;>try simp at o
 ·obtain rfl : k = 3 := by omega
  refine dv 5 ?_
  exact ⟨[γ 0, γ 1, γ 2], rfl, rfl, x4x⟩
 refine dc 9 (fun K K' => aS ?_ ?_)<;>intro hg5<;>try simp at hg5
 ·have hs : (k : Int) = m.id ∨ a1l n (k : Int) = a1l m (k : Int) := .inl hg5
  refine dv 12 ?_
  refine u7u rfl rfl rfl (dv 1 ?_)
  exact ⟨k + 1, ⟨by omega, by omega⟩, [], (Cov.cons' (t := 5) rfl (by rw [x9x (by omega) (by omega)]; rfl) Cov.nil), x6x, (HE.box rfl (by rw [e1g hid hs]) HE.nil), x4x, rfl⟩
 have hi0 : ¬ (k : Int) = m.id := hg5
 refine dv 2 ?_
 refine x0x rfl rfl rfl (a7y c n k (by omega) hn.2.2.2.1 (by have := d2m hn; omega) (by have := hn.1; omega)) ?_
 refine dv 2 ?_
 refine b5i rfl rfl rfl (d2o (n := ({ m with version := a5o n m k } : Nd)) rfl rfl rfl (.cl rfl .nil)) (a7y false ({ m with version := a5o n m k } : Nd) k (by omega) hm.2.2.2.1 (by have := d2m hm; show (p7p m).length ≤ 5000000; omega) (by have := hm.1; show m.lanes.length ≤ 1048576; omega)) (a9w _) ?_
 refine dv 0 ?_
 refine x0x rfl rfl rfl (c4d true true (a1l n (k : Int)) (a1l m (k : Int))) ?_
 refine dc 2 (aS ?_ ?_)<;>intro hc6<;>try simp at hc6
 ·have hs : (k : Int) = m.id ∨ a1l n (k : Int) = a1l m (k : Int) := .inr hc6
  refine dv 3 ?_
  refine u7u rfl rfl rfl (dv 1 ?_)
  exact ⟨k + 1, ⟨by omega, by omega⟩, [], (Cov.cons' (t := 5) rfl (by rw [x9x (by omega) (by omega)]; rfl) Cov.nil), x6x, (HE.box rfl (by rw [e1g hid hs]) HE.nil), x4x, rfl⟩
 have hd : ¬ a1l n (k : Int) = a1l m (k : Int) := hc6
 refine dv 3 ?_
 refine a0g (.int .i64 (n.version + 1)) rfl rfl rfl (a8v rfl rfl (by omega) (by omega)) ?_
 refine dv 4 ?_
 refine u7u rfl rfl rfl (dv 1 ?_)
 exact ⟨k + 1, ⟨by omega, by omega⟩, [], (Cov.cons' (t := 5) rfl (by rw [x9x (by omega) (by omega)]; rfl) Cov.nil), x6x, (HE.box rfl (by (rw [f0i hid hi0 hd] <;> rfl)) HE.nil), x4x, rfl⟩
end
section
theorem c2y (apps : List Ap) (n : Nd) (q : Int) (hn : ndI n) (hA : a5r apps) : MethE Tryz.prog 321 0 [a4w true apps, .agg (u1u true n), .pv (.int .i64 q)] [] (ι := Nd × Bool) (fun S' => ndI S'.1) (fun S' => []) (fun S' => .tup [.agg (u1u true S'.1), .pv (.bool (S'.2))]) (fun S' => []) := by
 refine mE (ι := Nd × Bool) Tryz.f321 (fun S' => [.agg (u1u true S'.1), .pv (.bool (S'.2))]) 0 10 fun γ => ?_
 have fK := hn.1
 have fS := fK.1
 have fB := w2w fS
 have fb := b8v fS
 have hb : ∀ a ∈ apps, ∀ r ∈ a.rules, r.ops.length ≤ 1048576 := fun a ha r hr => by obtain ⟨i, hi⟩ := List.getElem?_of_mem hr; have := ((hA.2 a ha).2 i r hi).2.1.2.1; omega
 refine dv 1 ?_
 refine y3y (id := 0) rfl rfl rfl (x3x (id := 1) u6u q4q rfl (dv 4 fun K K' => ?_))
 refine x0x rfl rfl rfl (w0w true n) (dc 1 (aI ?_ ?_))<;>intro hc2<;>try simp at hc2
 ·exact absurd fK (a0p (by simpa using hc2))
 refine dv 1 ?_
 refine s0s fun B X0 w0 => ?_
 refine txR 2 rfl rfl (dv 2 ?_)
 refine txM [] [] (c4a n q (by omega)) rfl rfl rfl rfl fun j hj => ?_
 refine txR 1 rfl rfl (dv 1 ?_)
 refine z6z rfl (dc 6 (fun K K' => aS ?_ ?_))<;>intro o<;>try simp at o
 ·refine dv 16 ?_
  refine rlM [7, 8, 9] [_, _, _] (y2y true n fb) rfl rfl rfl ?_
  refine dv 2 ?_
  (refine v4v (b := b9t true n.lanes) 1 4 rfl rfl rfl (.ref rfl (Le.ow_map _ (fun _ => rfl) (fun _ => rfl)) .nil) rfl rfl rfl rfl ?_; refine v4v (b := c3l true n.views) 1 9 rfl rfl rfl (.ref rfl (Le.ow_map _ (fun _ => rfl) (fun _ => rfl)) .nil) rfl rfl rfl rfl ?_; refine v4v (b := a4u true n.known) 1 10 rfl rfl rfl (.ref rfl (Le.ow_map _ (fun _ => rfl) (fun _ => rfl)) .nil) rfl rfl rfl rfl ?_)
  refine dv 1 ?_
  exact ⟨(n, false), hn, [], rfl, rfl, x4x⟩
 refine dv 1 ?_
 refine x0x rfl rfl rfl (a8r true apps hb) (dc 3 (aS ?_ ?_))<;>intro o<;>try simp at o
 ·refine dv 11 ?_
  refine rlM [7, 8, 9] [_, _, _] (y2y true n fb) rfl rfl rfl ?_
  refine dv 2 ?_
  (refine v4v (b := b9t true n.lanes) 1 4 rfl rfl rfl (.ref rfl (Le.ow_map _ (fun _ => rfl) (fun _ => rfl)) .nil) rfl rfl rfl rfl ?_; refine v4v (b := c3l true n.views) 1 9 rfl rfl rfl (.ref rfl (Le.ow_map _ (fun _ => rfl) (fun _ => rfl)) .nil) rfl rfl rfl rfl ?_; refine v4v (b := a4u true n.known) 1 10 rfl rfl rfl (.ref rfl (Le.ow_map _ (fun _ => rfl) (fun _ => rfl)) .nil) rfl rfl rfl rfl ?_)
  refine dv 1 ?_
  exact ⟨(n, false), hn, [], rfl, rfl, x4x⟩
 refine dc 4 (aS ?_ ?_)<;>intro o<;>try simp at o
 ·refine dv 7 ?_
  refine rlM [7, 8, 9] [_, _, _] (y2y true n fb) rfl rfl rfl ?_
  refine dv 2 ?_
  (refine v4v (b := b9t true n.lanes) 1 4 rfl rfl rfl (.ref rfl (Le.ow_map _ (fun _ => rfl) (fun _ => rfl)) .nil) rfl rfl rfl rfl ?_; refine v4v (b := c3l true n.views) 1 9 rfl rfl rfl (.ref rfl (Le.ow_map _ (fun _ => rfl) (fun _ => rfl)) .nil) rfl rfl rfl rfl ?_; refine v4v (b := a4u true n.known) 1 10 rfl rfl rfl (.ref rfl (Le.ow_map _ (fun _ => rfl) (fun _ => rfl)) .nil) rfl rfl rfl rfl ?_)
  refine dv 1 ?_
  exact ⟨(n, false), hn, [], rfl, rfl, x4x⟩
 refine dv 2 ?_
 refine x0x rfl rfl rfl (z9z ..) (dc 2 (aI ?_ ?_))<;>intro o<;>try simp at o
 ·refine dv 2 ?_
  refine rlM [7, 8, 9] [_, _, _] (y2y true n fb) rfl rfl rfl ?_
  refine dv 2 ?_
  (refine v4v (b := b9t true n.lanes) 1 4 rfl rfl rfl (.ref rfl (Le.ow_map _ (fun _ => rfl) (fun _ => rfl)) .nil) rfl rfl rfl rfl ?_; refine v4v (b := c3l true n.views) 1 9 rfl rfl rfl (.ref rfl (Le.ow_map _ (fun _ => rfl) (fun _ => rfl)) .nil) rfl rfl rfl rfl ?_; refine v4v (b := a4u true n.known) 1 10 rfl rfl rfl (.ref rfl (Le.ow_map _ (fun _ => rfl) (fun _ => rfl)) .nil) rfl rfl rfl rfl ?_)
  refine dv 1 ?_
  exact ⟨(n, false), hn, [], rfl, rfl, x4x⟩
 have hv9 : n.version < 9999 := by omega
 obtain ⟨i, l, hji, hl, hlp⟩ := hj.resolve_left (by omega)
 subst hji
 have hln := c2b fK hl
 have hp3 := (c2q hln.2.1).1
 obtain ⟨qn, rfl⟩ : ∃ qn : Nat, q = (qn : Int) := ⟨q.toNat, by omega⟩
 have hA4 := hA.1
 obtain ⟨a, ha⟩ := gE apps qn
 have hap := hA.2 a (List.mem_of_getElem? ha)
 have hv0 := fS.1.2.2.2.2.1.1
 refine dv 1 ?_
 refine d2q 12 (b4k w5w 0 12 rfl rfl ?_)
 refine dv 3 ?_
 refine v0v (out := .agg (b7q true a)) rfl a5c rfl ?_
 refine dv 4 ?_
 refine v0v (out := .agg (r4r true l)) rfl a0y rfl ?_
 refine dv 2 ?_
 refine x0x rfl rfl rfl (a4d true n (qn : Int) (a7o fS) (by omega) fS.2.2.2.2.2.1) ?_
 refine b4k w5w 16 1 rfl rfl ?_
 refine x3x (id := 2) a0y a9m rfl (b5u c3r (by rfl) [] [] (c2v a l (a1k n (qn : Int)) hap hln.2.1) rfl rfl rfl rfl (by decide) rfl rfl (by repeat (exact InH.nil)) (fun _ => (by (simp only [pI, a2x, a2z, c0k, gl, nx, a7k, Nat.beq]; rfl))) (fun _ => (by (simp only [pI, a2x, a2z, c0k, gl, nx, a7k, Nat.beq]; rfl))) (l, false) (by intro h; simp at h) fun r hr => ?_)
 refine b4l w5w 13 3 rfl rfl ?_
 refine dv 3 ?_
 refine b4l w5w 17 2 rfl rfl ?_
 refine dv 2 ?_
 refine c2n (by kernel_rfl) ?_
 refine dc 4 (fun K K' => aI ?_ ?_)<;>intro hc9<;>try simp at hc9
 ·refine dv 2 ?_
  refine rlM [7, 8, 9] [_, _, _] (y2y true n fb) rfl rfl rfl ?_
  refine dv 2 ?_
  (refine v4v (b := b9t true n.lanes) 1 4 rfl rfl rfl (.ref rfl (Le.ow_map _ (fun _ => rfl) (fun _ => rfl)) .nil) rfl rfl rfl rfl ?_; refine v4v (b := c3l true n.views) 1 9 rfl rfl rfl (.ref rfl (Le.ow_map _ (fun _ => rfl) (fun _ => rfl)) .nil) rfl rfl rfl rfl ?_; refine v4v (b := a4u true n.known) 1 10 rfl rfl rfl (.ref rfl (Le.ow_map _ (fun _ => rfl) (fun _ => rfl)) .nil) rfl rfl rfl rfl ?_)
  refine dv 1 ?_
  exact ⟨(n, false), hn, [], rfl, rfl, x4x⟩
 obtain ⟨p, hp1, hroom, hpb, hpc⟩ := hr hc9
 rw [hp1]
 have hwM := e6h (e1a fS) hl hroom hpb
 have hoM := e3c hn.2 hl hln.2.1 hpb hpc
 have hwA : wk (nl (nl n (n.lanes.set i (a2o l p))) (q3q (nl n (n.lanes.set i (a2o l p))) (nl n (n.lanes.set i (a2o l p))).lanes)) := c7j _ (Nat.le_refl _) hwM
 refine dv 3 ?_
 refine rlM [4, 5, 6] [_, _, _] (y2y true n fb) rfl rfl rfl ?_
 refine x3x (id := 3) u6u q4q rfl (dv 6 ?_)
 refine z0z (j := i) rfl rfl a8u rfl a0y rfl rfl (z2z hl) ?_
 refine v5v (el' := a2o l p) rfl rfl a0y rfl rfl rfl hl rfl (q7q rfl) rfl rfl ?_
 refine dv 3 ?_
 refine rlM [4, 5, 6] [_, _, _] (b3e (nl n (n.lanes.set i (a2o l p))) hwM) rfl rfl rfl ?_
 refine rlM [4, 5, 6] [_, _, _] (b1k true n (nl (nl n (n.lanes.set i (a2o l p))) (q3q (nl n (n.lanes.set i (a2o l p))) (nl n (n.lanes.set i (a2o l p))).lanes)) (e1a fS) hwA rfl ⟨hv0, by omega⟩) rfl rfl rfl ?_
 refine dv 2 fun K K' => ?_
 refine v4v (b := b9t true (a8x n (nl n (n.lanes.set i (a2o l p)))).lanes) 3 4 rfl rfl rfl (.ref rfl (Le.ow_map _ (fun _ => rfl) (fun _ => rfl)) .nil) rfl rfl rfl rfl ?_
 refine v4v (b := c3l true (a8x n (nl n (n.lanes.set i (a2o l p)))).views) 3 9 rfl rfl rfl (.ref rfl (Le.ow_map _ (fun _ => rfl) (fun _ => rfl)) .nil) rfl rfl rfl rfl ?_
 refine v4v (b := a4u true (a8x n (nl n (n.lanes.set i (a2o l p)))).known) 3 10 rfl rfl rfl (.ref rfl (Le.ow_map _ (fun _ => rfl) (fun _ => rfl)) .nil) rfl rfl rfl rfl ?_
 refine dv 2 ?_
 refine x0x rfl rfl rfl (w0w true (a8x n (nl n (n.lanes.set i (a2o l p))))) ?_
 refine dc 1 (aI ?_ ?_)<;>intro hc11<;>try simp at hc11
 ·refine dv 2 ?_
  refine rlM [7, 8, 9] [_, _, _] (y2y true n fb) rfl rfl rfl ?_
  refine dv 2 ?_
  (refine v4v (b := b9t true n.lanes) 1 4 rfl rfl rfl (.ref rfl (Le.ow_map _ (fun _ => rfl) (fun _ => rfl)) .nil) rfl rfl rfl rfl ?_; refine v4v (b := c3l true n.views) 1 9 rfl rfl rfl (.ref rfl (Le.ow_map _ (fun _ => rfl) (fun _ => rfl)) .nil) rfl rfl rfl rfl ?_; refine v4v (b := a4u true n.known) 1 10 rfl rfl rfl (.ref rfl (Le.ow_map _ (fun _ => rfl) (fun _ => rfl)) .nil) rfl rfl rfl rfl ?_)
  refine dv 1 ?_
  exact ⟨(n, false), hn, [], rfl, rfl, x4x⟩
 have fK2 : y0y (a8x n (nl n (n.lanes.set i (a2o l p)))) := a0o.1 (by simpa using hc11)
 have fb2 := b8v fK2.1
 refine dv 3 ?_
 refine rlM [7, 8, 9] [_, _, _] (y2y true (a8x n (nl n (n.lanes.set i (a2o l p)))) fb2) rfl rfl rfl ?_
 refine dv 2 ?_
 (refine v4v (b := b9t true (a8x n (nl n (n.lanes.set i (a2o l p)))).lanes) 1 4 rfl rfl rfl (.ref rfl (Le.ow_map _ (fun _ => rfl) (fun _ => rfl)) .nil) rfl rfl rfl rfl ?_; refine v4v (b := c3l true (a8x n (nl n (n.lanes.set i (a2o l p)))).views) 1 9 rfl rfl rfl (.ref rfl (Le.ow_map _ (fun _ => rfl) (fun _ => rfl)) .nil) rfl rfl rfl rfl ?_; refine v4v (b := a4u true (a8x n (nl n (n.lanes.set i (a2o l p)))).known) 1 10 rfl rfl rfl (.ref rfl (Le.ow_map _ (fun _ => rfl) (fun _ => rfl)) .nil) rfl rfl rfl rfl ?_)
 refine dv 1 ?_
 exact ⟨((a8x n (nl n (n.lanes.set i (a2o l p)))), true), ⟨fK2, c5m hoM⟩, [], rfl, rfl, x4x⟩
end
section
theorem b4t (c : Bool) (l : List Int) : a0j Tryz.prog 259 [a4u c l] (.pv (.bool (decide (b4d l)))) := by
 refine pX Tryz.f259 [.pv (.bool (decide (b4d l)))] 0 ?_
 refine u9u 0 rfl fun hlen => ?_
 refine dc 8 (fun K K' => aS ?_ ?_)<;>intro o<;>try simp at o
 ·refine dv 4 ?_
  have hL : l.length = 0 ∨ l.length = 3 := by (simp_all; done)
  refine dv 5 fun K K' => ?_
  refine x5x (ι := Nat) (fun i γ2 => [(3, pI (i : Int))]) (fun i γ2 => []) (fun i => i ≤ l.length ∧ c6w l (fun _ v => 0 ≤ v ∧ v ≤ 9999) i) (fun i => l.length - i) (x8x 0 rfl Cov.nil) HE.nil 0 ⟨by omega, a0v⟩ [] x6x x4x rfl fun i γ2 hi => ?_
  obtain ⟨h1, h2⟩ := hi
  refine dc 6 (fun K K' => aS ?_ ?_)<;>intro o<;>try simp at o
  ·have hall := a2i h2 (by omega)
   refine dv 4 ?_
   refine x2x rfl ?_ rfl
   exact kT ⟨hL, fun v hv => by obtain ⟨i, hi⟩ := List.getElem?_of_mem hv; exact hall i v hi⟩
  obtain ⟨v, hv⟩ := gE l i
  refine dv 8 fun K K' => ?_
  refine x0x rfl rfl rfl (z9z ..) (x0x rfl rfl rfl (y7y ..) (dc 1 (aS ?_ ?_)))<;>intro o<;>try simp at o
  ·have hb : 0 ≤ v ∧ v ≤ 9999 := by omega
   refine dv 3 ?_
   refine x7x (b := 1) rfl rfl (by omega) (dv 1 ?_)
   exact ⟨i + 1, ⟨⟨by omega, r0r h2 hv hb⟩, by omega⟩, [], x6x, x6x, x4x, x4x, rfl⟩
  have hX2 : ¬ (0 ≤ v ∧ v ≤ 9999) := by omega
  refine dv 3 ?_
  refine x2x rfl ?_ rfl
  exact kF (fun h => hX2 (h.2 v (List.mem_of_getElem? hv)))
 refine dc 4 (aI ?_ ?_)<;>intro o<;>try simp at o
 ·have hX : ¬ (l.length = 0 ∨ l.length = 3) := by (rintro (h | h); exact absurd (List.length_eq_zero_iff.1 h) ‹_›; omega)
  refine dv 3 ?_
  refine x2x rfl ?_ rfl
  exact kF (fun h => hX h.1)
 have hL : l.length = 0 ∨ l.length = 3 := by omega
 refine dv 5 fun K K' => ?_
 refine x5x (ι := Nat) (fun i γ1 => [(3, pI (i : Int))]) (fun i γ1 => []) (fun i => i ≤ l.length ∧ c6w l (fun _ v => 0 ≤ v ∧ v ≤ 9999) i) (fun i => l.length - i) (x8x 0 rfl Cov.nil) HE.nil 0 ⟨by omega, a0v⟩ [] x6x x4x rfl fun i γ1 hi => ?_
 obtain ⟨h1, h2⟩ := hi
 refine dc 6 (fun K K' => aS ?_ ?_)<;>intro o<;>try simp at o
 ·have hall := a2i h2 (by omega)
  refine dv 4 ?_
  refine x2x rfl ?_ rfl
  exact kT ⟨hL, fun v hv => by obtain ⟨i, hi⟩ := List.getElem?_of_mem hv; exact hall i v hi⟩
 obtain ⟨v, hv⟩ := gE l i
 refine dv 8 fun K K' => ?_
 refine x0x rfl rfl rfl (z9z ..) (x0x rfl rfl rfl (y7y ..) (dc 1 (aS ?_ ?_)))<;>intro o<;>try simp at o
 ·have hb : 0 ≤ v ∧ v ≤ 9999 := by omega
  refine dv 3 ?_
  refine x7x (b := 1) rfl rfl (by omega) (dv 1 ?_)
  exact ⟨i + 1, ⟨⟨by omega, r0r h2 hv hb⟩, by omega⟩, [], x6x, x6x, x4x, x4x, rfl⟩
 have hX2 : ¬ (0 ≤ v ∧ v ≤ 9999) := by omega
 refine dv 3 ?_
 refine x2x rfl ?_ rfl
 exact kF (fun h => hX2 (h.2 v (List.mem_of_getElem? hv)))
theorem b0x (c : Bool) (w : Wo) : a0j Tryz.prog 182 [.agg (u3u c w)] (.pv (.bool (decide (a1r w)))) := by
 refine pX Tryz.f182 [.pv (.bool (decide (a1r w)))] 1 ?_
 refine dv 1 ?_
 refine y3y (id := 0) rfl rfl rfl (dv 4 ?_)
 refine x0x rfl rfl rfl (y7y ..) (dc 1 (aS ?_ ?_))<;>intro o<;>try simp at o
 ·have hX : ¬ s8s w := by unfold s8s; omega
  refine dv 54 ?_
  refine x2x rfl ?_ rfl
  exact kF (fun h => hX h.1)
 refine dv 2 ?_
 refine x0x rfl rfl rfl (y7y ..) (dc 2 (aS ?_ ?_))<;>intro o<;>try simp at o
 ·have hX : ¬ s8s w := by unfold s8s; omega
  refine dv 49 ?_
  refine x2x rfl ?_ rfl
  exact kF (fun h => hX h.1)
 refine dv 2 ?_
 refine x0x rfl rfl rfl (y7y ..) (dc 2 (aS ?_ ?_))<;>intro o<;>try simp at o
 ·have hX : ¬ s8s w := by unfold s8s; omega
  refine dv 44 ?_
  refine x2x rfl ?_ rfl
  exact kF (fun h => hX h.1)
 refine dv 2 ?_
 refine x0x rfl rfl rfl (z9z ..) (dv 0 ?_)
 refine x0x rfl rfl rfl (y7y ..) (dc 2 (aS ?_ ?_))<;>intro o<;>try simp at o
 ·have hX : ¬ s8s w := by unfold s8s; omega
  refine dv 38 ?_
  refine x2x rfl ?_ rfl
  exact kF (fun h => hX h.1)
 refine dv 2 ?_
 refine x0x rfl rfl rfl (z9z ..) (dv 0 ?_)
 refine x0x rfl rfl rfl (y7y ..) (dc 2 (aS ?_ ?_))<;>intro o<;>try simp at o
 ·have hX : ¬ s8s w := by unfold s8s; omega
  refine dv 32 ?_
  refine x2x rfl ?_ rfl
  exact kF (fun h => hX h.1)
 refine dv 2 ?_
 refine x0x rfl rfl rfl (z9z ..) (dv 0 ?_)
 refine x0x rfl rfl rfl (y7y ..) (dc 2 (aS ?_ ?_))<;>intro o<;>try simp at o
 ·have hX : ¬ s8s w := by unfold s8s; omega
  refine dv 26 ?_
  refine x2x rfl ?_ rfl
  exact kF (fun h => hX h.1)
 refine dv 2 ?_
 refine x0x rfl rfl rfl (y7y ..) (dc 2 (aS ?_ ?_))<;>intro o<;>try simp at o
 ·have hX : ¬ s8s w := by unfold s8s; omega
  refine dv 21 ?_
  refine x2x rfl ?_ rfl
  exact kF (fun h => hX h.1)
 have hN : s8s w := by unfold s8s; omega
 refine dv 2 ?_
 refine x0x rfl rfl rfl (b4t ..) (dc 2 (aS ?_ ?_))<;>intro hg8<;>try simp at hg8
 ·have hX1 : ¬ b4d w.incs := hg8
  refine dv 16 ?_
  refine x2x rfl ?_ rfl
  exact kF (fun h => hX1 h.2.1)
 have hI : b4d w.incs := hg8
 refine dv 2 ?_
 refine x0x rfl rfl rfl (b4t ..) (dc 2 (aS ?_ ?_))<;>intro hg9<;>try simp at hg9
 ·have hX2 : ¬ b4d w.versions := hg9
  refine dv 11 ?_
  refine x2x rfl ?_ rfl
  exact kF (fun h => hX2 h.2.2.1)
 have hV : b4d w.versions := hg9
 refine dv 2 ?_
 refine x0x rfl rfl rfl (a3q ..) (dv 0 ?_)
 refine x0x rfl rfl rfl (a3m ..) (dc 2 (aS ?_ ?_))<;>intro hg10<;>try simp at hg10
 ·have hX3 : ¬ a6y okE a2g w.events 100 = true := by simpa using hg10
  refine dv 5 ?_
  refine x2x rfl ?_ rfl
  exact kF (fun h => hX3 h.2.2.2.1)
 have hE : a6y okE a2g w.events 100 = true := hg10
 refine dv 2 ?_
 refine x0x rfl rfl rfl (a7g ..) (dv 3 ?_)
 refine x2x rfl ?_ rfl
 exact congrArg (fun b : Bool => [AV.pv (.bool b)]) (Bool.eq_iff_iff.2 ⟨fun h => decide_eq_true ⟨hN, hI, hV, hE, h⟩, fun h => (of_decide_eq_true h).2.2.2.2⟩)
theorem a4e (c : Bool) (w : Wo) (hb : wob w) : a0j Tryz.prog 331 [.agg (u3u c w)] (.agg (u3u true w)) := by
 refine pX Tryz.f331 [.agg (u3u true w)] 10 ?_
 obtain ⟨b1, b2, b3, b4⟩ := hb
 refine dv 1 ?_
 refine y3y (id := 0) rfl rfl rfl (x3x (id := 1) v2v a6n rfl (dv 1 ?_))
 refine y1y (id := 2) a0k rfl r3r rfl (dv 2 ?_)
 refine a1n w5w (zs := (w.incs).map a6j) rfl rfl a0k rfl r3r rfl rfl rfl (z8z (fun _ => rfl) _) rfl (by (simp only [a0b, r5r, s1s, s3s, a0t, a3b, T3]; omega)) (Le.ow_map _ (fun _ => rfl) (fun _ => rfl)) ?_
 refine dv 3 ?_
 refine y1y (id := 4) a0k rfl r3r rfl (dv 2 ?_)
 refine a1n w5w (zs := (w.versions).map a6j) rfl rfl a0k rfl r3r rfl rfl rfl (z8z (fun _ => rfl) _) rfl (by (simp only [a0b, r5r, s1s, s3s, a0t, a3b, T3]; omega)) (Le.ow_map _ (fun _ => rfl) (fun _ => rfl)) ?_
 refine dv 3 ?_
 refine y1y (id := 6) v6v rfl z4z rfl (dv 2 ?_)
 refine a1n w5w (zs := (w.events).map z1z) rfl rfl v6v rfl z4z rfl rfl rfl (z8z (fun _ => rfl) _) rfl (by (simp only [a0b, r5r, s1s, s3s, a0t, a3b, T56]; omega)) (Le.ow_map _ (fun _ => rfl) (fun _ => rfl)) ?_
 refine dv 3 ?_
 refine y1y (id := 8) a0c rfl v9v rfl (dv 2 ?_)
 refine a1n w5w (zs := (w.outs).map q5q) rfl rfl a0c rfl v9v rfl rfl rfl (z8z (fun _ => rfl) _) rfl (by (simp only [a0b, r5r, s1s, s3s, a0t, a3b, T141]; omega)) (Le.ow_map _ (fun _ => rfl) (fun _ => rfl)) ?_
 refine dv 6 ?_
 exact a8w rfl rfl rfl rfl
theorem a9c (c : Bool) (l : List Wo) (k : Int) : a0j Tryz.prog 333 [v7v c l, .pv (.int .i64 k)] (.pv (.bool (kb (b1r l k ∧ (k = 3 → ∀ w ∈ l, a8j w))))) := by
 refine pX Tryz.f333 [.pv (.bool (kb (b1r l k ∧ (k = 3 → ∀ w ∈ l, a8j w))))] 0 ?_
 refine u9u 0 rfl fun hlen => ?_
 refine dv 6 fun K K' => ?_
 refine x5x (ι := Nat) (fun i γ1 => [(5, pI (i : Int))]) (fun i γ1 => []) (fun i => i ≤ l.length ∧ c6w l (fun j w => a1r w ∧ w.kind = k ∧ (∀ p, 0 < j → l[j - 1]? = some p → p.from' < w.from') ∧ (k = 3 → a8j w)) i) (fun i => l.length - i) (r2r [0, 1] rfl) HE.nil 0 ⟨by omega, a0v⟩ [] x6x x4x rfl fun i γ1 hi => ?_
 obtain ⟨h1, h2⟩ := hi
 refine dc 6 (fun K K' => aS ?_ ?_)<;>intro o<;>try simp at o
 ·have hall := a2i h2 (by omega)
  refine dv 4 ?_
  refine x2x rfl ?_ rfl
  exact congrArg (fun b : Bool => [AV.pv (.bool b)]) (e3t ⟨fun j w hw => ⟨(hall j w hw).1, (hall j w hw).2.1, (hall j w hw).2.2.1⟩, fun e w hw => by obtain ⟨j, hj⟩ := List.getElem?_of_mem hw; exact (hall j w hj).2.2.2 e⟩)
 obtain ⟨w, hw⟩ := gE l i
 refine dv 8 fun K K' K K' => ?_
 refine v0v (out := .agg (u3u c w)) rfl v2v rfl ?_
 refine x0x rfl rfl rfl (b0x ..) (dc 2 (aS ?_ ?_))<;>intro hg6<;>try simp at hg6
 ·have hX : ¬ a1r w := hg6
  refine dv 26 ?_
  try have hXo : ¬ p.from' < w.from' := by omega
  refine dv 3 ?_
  refine x2x rfl ?_ rfl
  exact congrArg (fun b : Bool => [AV.pv (.bool b)]) (a4v (fun h => hX (h.1 i w hw).1))
 have hW : a1r w := hg6
 refine dc 9 (aS ?_ ?_)<;>intro hg7<;>try simp at hg7
 ·try have hXk : ¬ w.kind = k := hg7
  refine dv 17 ?_
  try have hXo : ¬ p.from' < w.from' := by omega
  refine dv 3 ?_
  refine x2x rfl ?_ rfl
  exact congrArg (fun b : Bool => [AV.pv (.bool b)]) (a4v (fun h => hXk (h.1 i w hw).2.1))
 have hk : w.kind = k := hg7
 refine dc 3 (aS ?_ ?_)<;>intro o<;>try simp at o
 ·have hi0 : i = 0 := by omega
  have hO : ∀ p, 0 < i → l[i - 1]? = some p → p.from' < w.from' := fun p h => by omega
  refine dv 14 ?_
  try have hO : ∀ p, 0 < i → l[i - 1]? = some p → p.from' < w.from' := fun p2 _ h => by rw [hp] at h; cases h; omega
  refine dc 5 (aS ?_ ?_)<;>intro o<;>try simp at o
  ·refine dv 17 ?_
   have hF : k = 3 → a8j w := by intro _; exact ⟨by omega, by omega⟩
   refine dv 3 ?_
   refine x7x (b := 1) rfl rfl (by omega) (dv 1 ?_)
   exact ⟨i + 1, ⟨⟨by omega, r0r h2 hw ⟨hW, hk, hO, hF⟩⟩, by omega⟩, [], x6x, x6x, x4x, x4x, rfl⟩
  refine dc 8 (aS ?_ ?_)<;>intro o<;>try simp at o
  ·refine dv 9 ?_
   have hX5 : ¬ (k = 3 → a8j w) := fun h => by have := h (by omega); unfold a8j at this; omega
   refine dv 3 ?_
   refine x2x rfl ?_ rfl
   exact congrArg (fun b : Bool => [AV.pv (.bool b)]) (a4v (fun h => hX5 (fun e => h.2 e w (List.mem_of_getElem? hw))))
  refine dc 9 (aS ?_ ?_)<;>intro o<;>try simp at o
  ·have hF : k = 3 → a8j w := by intro _; exact ⟨by omega, by omega⟩
   refine dv 3 ?_
   refine x7x (b := 1) rfl rfl (by omega) (dv 1 ?_)
   exact ⟨i + 1, ⟨⟨by omega, r0r h2 hw ⟨hW, hk, hO, hF⟩⟩, by omega⟩, [], x6x, x6x, x4x, x4x, rfl⟩
  have hX5 : ¬ (k = 3 → a8j w) := fun h => by have := h (by omega); unfold a8j at this; omega
  refine dv 3 ?_
  refine x2x rfl ?_ rfl
  exact congrArg (fun b : Bool => [AV.pv (.bool b)]) (a4v (fun h => hX5 (fun e => h.2 e w (List.mem_of_getElem? hw))))
 obtain ⟨p, hp⟩ := gE l (i - 1)
 refine dv 2 ?_
 refine r1r (b := 1) rfl rfl (by omega) (by omega) (dc 11 (aI ?_ ?_))<;>intro o<;>try simp at o
 ·try have hXo : ¬ p.from' < w.from' := by omega
  refine dv 3 ?_
  refine x2x rfl ?_ rfl
  exact congrArg (fun b : Bool => [AV.pv (.bool b)]) (a4v (fun h => hXo ((h.1 i w hw).2.2 p (by omega) hp)))
 try have hO : ∀ p, 0 < i → l[i - 1]? = some p → p.from' < w.from' := fun p2 _ h => by rw [hp] at h; cases h; omega
 refine dc 5 (aS ?_ ?_)<;>intro o<;>try simp at o
 ·refine dv 17 ?_
  have hF : k = 3 → a8j w := by intro _; exact ⟨by omega, by omega⟩
  refine dv 3 ?_
  refine x7x (b := 1) rfl rfl (by omega) (dv 1 ?_)
  exact ⟨i + 1, ⟨⟨by omega, r0r h2 hw ⟨hW, hk, hO, hF⟩⟩, by omega⟩, [], x6x, x6x, x4x, x4x, rfl⟩
 refine dc 8 (aS ?_ ?_)<;>intro o<;>try simp at o
 ·refine dv 9 ?_
  have hX5 : ¬ (k = 3 → a8j w) := fun h => by have := h (by omega); unfold a8j at this; omega
  refine dv 3 ?_
  refine x2x rfl ?_ rfl
  exact congrArg (fun b : Bool => [AV.pv (.bool b)]) (a4v (fun h => hX5 (fun e => h.2 e w (List.mem_of_getElem? hw))))
 refine dc 9 (aS ?_ ?_)<;>intro o<;>try simp at o
 ·have hF : k = 3 → a8j w := by intro _; exact ⟨by omega, by omega⟩
  refine dv 3 ?_
  refine x7x (b := 1) rfl rfl (by omega) (dv 1 ?_)
  exact ⟨i + 1, ⟨⟨by omega, r0r h2 hw ⟨hW, hk, hO, hF⟩⟩, by omega⟩, [], x6x, x6x, x4x, x4x, rfl⟩
 have hX5 : ¬ (k = 3 → a8j w) := fun h => by have := h (by omega); unfold a8j at this; omega
 refine dv 3 ?_
 refine x2x rfl ?_ rfl
 exact congrArg (fun b : Bool => [AV.pv (.bool b)]) (a4v (fun h => hX5 (fun e => h.2 e w (List.mem_of_getElem? hw))))
theorem a8s (c : Bool) (h : Hb) : a0j Tryz.prog 323 [.agg (a7d c h)] (.pv (.bool (kb (s9s h)))) := by
 refine pX Tryz.f323 [.pv (.bool (kb (s9s h)))] 1 ?_
 refine dv 1 ?_
 refine y3y (id := 0) rfl rfl rfl (dv 4 ?_)
 refine x0x rfl rfl rfl (z9z ..) (x0x rfl rfl rfl (y7y ..) (dc 1 (aS ?_ ?_)))<;>intro o<;>try simp at o
 ·have hX : ¬ (0 ≤ h.round ∧ h.round ≤ 9999) := by omega
  refine dv 15 ?_
  refine x2x rfl ?_ rfl
  exact congrArg (fun b : Bool => [AV.pv (.bool b)]) (a4v (fun h => hX h.1))
 have hR : 0 ≤ h.round ∧ h.round ≤ 9999 := by omega
 refine dv 2 ?_
 refine x0x rfl rfl rfl (a9c ..) (dc 2 (aS ?_ ?_))<;>intro hg2<;>try simp at hg2
 ·have hX1 : ¬ (b1r h.ones 3 ∧ ((3 : Int) = 3 → ∀ w ∈ h.ones, a8j w)) := a0p (by simpa using hg2)
  refine dv 10 ?_
  refine x2x rfl ?_ rfl
  exact congrArg (fun b : Bool => [AV.pv (.bool b)]) (a4v (fun h => hX1 ⟨h.2.1, fun _ => h.2.2.2.2⟩))
 have h1 : b1r h.ones 3 ∧ ((3 : Int) = 3 → ∀ w ∈ h.ones, a8j w) := a0o.1 (by simpa using hg2)
 refine dv 2 ?_
 refine x0x rfl rfl rfl (a9c ..) (dc 2 (aS ?_ ?_))<;>intro hg3<;>try simp at hg3
 ·have hX2 : ¬ (b1r h.twos 5 ∧ ((5 : Int) = 3 → ∀ w ∈ h.twos, a8j w)) := a0p (by simpa using hg3)
  refine dv 5 ?_
  refine x2x rfl ?_ rfl
  exact congrArg (fun b : Bool => [AV.pv (.bool b)]) (a4v (fun h => hX2 ⟨h.2.2.1, fun e => by omega⟩))
 have h2 : b1r h.twos 5 ∧ ((5 : Int) = 3 → ∀ w ∈ h.twos, a8j w) := a0o.1 (by simpa using hg3)
 refine dv 2 ?_
 refine x0x rfl rfl rfl (a9c ..) (dv 3 ?_)
 refine x2x rfl ?_ rfl
 exact congrArg (fun b : Bool => [AV.pv (.bool b)]) (congrArg kb (propext ⟨fun h => ⟨hR, h1.1, h2.1, h.1, h1.2 rfl⟩, fun h => ⟨h.2.2.2.1, fun e => by omega⟩⟩))
end
section
theorem a7z (c : Bool) (l : List Wo) (hb : ∀ w ∈ l, wob w) (hl : l.length ≤ 1000000) : a0j Tryz.prog 334 [v7v c l] (v7v true l) := by
 refine pX Tryz.f334 [v7v true l] 3 ?_
 refine dv 3 ?_
 refine y1y (id := 0) p5p rfl v2v rfl (dv 5 fun K K' => ?_)
 refine x5x (ι := Nat) (fun i γ1 => [(3, .ref 0 (γ1 0)), (4, pI (i : Int))]) (fun i γ1 => [(0, ((γ1 0), .row 79 11 ((l.take i).map (u3u true)))), (1, ((γ1 1), .dead)), (2, ((γ1 2), .dead))]) (fun i => i ≤ l.length) (fun i => l.length - i) (x8x 0 rfl Cov.nil) HE.nil 0 (by omega) [_, _, _] x6x (HE.row rfl (by rw [List.take_zero]; rfl) (HE.kill rfl (HE.kill rfl HE.nil))) rfl fun i γ1 hi => ?_
 refine dc 6 (fun K K' => aS ?_ ?_)<;>intro u<;>try simp at u
 ·obtain rfl : i = l.length := by omega
  refine dv 5 ?_
  refine a4j rfl rfl (fun _ => rfl) ?_
  rw [List.take_length]
 obtain ⟨w, hw⟩ := gE l i
 have hwb := hb w (List.mem_of_getElem? hw)
 refine dv 8 fun K K' => ?_
 refine v0v (out := .agg (u3u c w)) rfl v2v rfl ?_
 refine x0x rfl rfl rfl (a4e c w hwb) (y5y (id := 1) p5p rfl v2v rfl rfl rfl rfl rfl rfl ?_)
 refine y6y (zs := (l.take i ++ [w]).map (u3u true)) rfl rfl p5p rfl v2v rfl rfl rfl rfl (by rfl) (u0u _ _ _) (by (simp only [a0b, r5r, s1s, s3s, a0t, a3b, T79]; omega)) ?_
 refine dv 3 ?_
 refine u7u rfl rfl rfl (dv 1 ?_)
 exact ⟨i + 1, ⟨by omega, by omega⟩, [_, _, _], (x8x 3 rfl (Cov.cons' (t := 4) rfl (by rw [x9x (by omega) (by omega)]; rfl) Cov.nil)), x6x, (HE.row rfl (by rw [z5z hw]) (HE.kill rfl (HE.kill rfl HE.nil))), x4x, rfl⟩
theorem a2u (c : Bool) (h : Hb) (hk : s9s h) : a0j Tryz.prog 324 [.agg (a7d c h)] (.agg (a7d true h)) := by
 refine pX Tryz.f324 [.agg (a7d true h)] 2 ?_
 have e1 := b5v hk.2.1
 have e2 := b5v hk.2.2.1
 have e3 := b5v hk.2.2.2.1
 refine dv 1 ?_
 refine y3y (id := 0) rfl rfl rfl (x3x (id := 1) a6d b5f rfl (dv 5 ?_))
 refine x0x rfl rfl rfl (a7z c h.ones (d2v hk.2.1) (by omega)) ?_
 refine dv 2 ?_
 refine x0x rfl rfl rfl (a7z c h.twos (d2v hk.2.2.1) (by omega)) ?_
 refine dv 2 ?_
 refine x0x rfl rfl rfl (a7z c h.outs (d2v hk.2.2.2.1) (by omega)) ?_
 refine rlB a6d b5f ?_
 refine dv 2 ?_
 exact a8w rfl rfl rfl rfl
theorem a7h (l : List Wo) (w : Wo) (ag : Bool) (hl : l.length ≤ 1000000) : a0j Tryz.prog 330 [v7v true l, .agg (u3u true w), .pv (.bool (ag))] (v7v true (a6h w ag l false)) := by
 refine pX Tryz.f330 [v7v true (a6h w ag l false)] 10 ?_
 refine dv 1 ?_
 refine y3y (id := 0) rfl rfl rfl (dv 2 ?_)
 refine y1y (id := 1) p5p rfl v2v rfl (dv 7 fun K K' => ?_)
 refine x5x (ι := List Wo × Bool × Nat) (fun p γ1 => [(7, .ref 1 (γ1 1)), (8, .pv (.bool (p.2.1))), (9, pI (p.2.2 : Int))]) (fun p γ1 => [(1, ((γ1 1), .row 79 11 ((p.1).map (u3u true)))), (2, ((γ1 2), .dead)), (3, ((γ1 3), .dead)), (4, ((γ1 4), .dead)), (5, ((γ1 5), .dead)), (6, ((γ1 6), .dead)), (7, ((γ1 7), .dead))]) (fun p => p.2.2 ≤ l.length ∧ p.1.length ≤ 2 * p.2.2 ∧ p.1 ++ a6h w ag (l.drop p.2.2) p.2.1 = a6h w ag l false) (fun p => l.length - p.2.2) (r2r [0, 2, 4] rfl) (a1p [0, 8, 9] rfl) ([], false, 0) ⟨by show 0 ≤ _; omega, by show 0 ≤ _; omega, rfl⟩ [0, _, _, _, _, _, _, _] x6x x4x rfl fun p γ1 hi => ?_
 obtain ⟨o, d, i⟩ := p
 obtain ⟨h1, h2, h3⟩ := hi
 dsimp only at h1 h2 h3 ⊢
 refine dc 6 (fun K K' => aS ?_ ?_)<;>intro u<;>try simp at u
 ·obtain rfl : i = l.length := by omega
  rw [List.drop_length] at h3
  refine dc 5 (fun K K' => aS ?_ ?_)<;>intro hc15<;>try simp at hc15
  ·obtain rfl : d = true := hc15
   refine dv 5 ?_
   refine a4j rfl rfl (fun _ => rfl) ?_
   (rw [← h3]; exact (List.append_nil _).symm)
  obtain rfl : d = false := hc15
  refine dv 3 ?_
  refine y5y (id := 8) p5p rfl v2v rfl rfl rfl rfl rfl rfl ?_
  refine y6y (zs := (o ++ [w]).map (u3u true)) rfl rfl p5p rfl v2v rfl rfl rfl rfl (by rfl) (u0u _ _ _) (by (simp only [a0b, r5r, s1s, s3s, a0t, a3b, T79]; omega)) ?_
  refine dv 5 ?_
  refine a4j rfl rfl (fun _ => rfl) ?_
  exact h3
 obtain ⟨x, hx⟩ := gE l i
 refine dc 13 (fun K K' K K' => aI ?_ ?_)<;>intro hc6<;>try simp at hc6
 ·have hq : x.from' = w.from' := hc6
  refine dc 4 (aI ?_ ?_)<;>intro hc7<;>try simp at hc7
  ·obtain rfl : ag = true := hc7
   have hN : i + 1 ≤ l.length ∧ (o ++ [w]).length ≤ 2 * (i + 1) ∧ (o ++ [w]) ++ a6h w true (l.drop (i + 1)) true = a6h w true l false := ⟨by omega, by simp only [r5r, s1s, s3s]; omega, b0v h3 (by rw [p2p hx]; exact f4a hq)⟩
   refine dv 3 ?_
   refine y5y (id := 2) p5p rfl v2v rfl rfl rfl rfl rfl rfl ?_
   refine y6y (zs := (o ++ [w]).map (u3u true)) rfl rfl p5p rfl v2v rfl rfl rfl rfl (by rfl) (u0u _ _ _) (by (simp only [a0b, r5r, s1s, s3s, a0t, a3b, T79]; omega)) ?_
   refine dv 4 ?_
   refine x7x (b := 1) rfl rfl (by omega) (dv 1 ?_)
   exact ⟨(_, _, _), ⟨hN, (by show l.length - (i + 1) < l.length - i; omega)⟩, [0, _, _, _, _, _, _, _], x6x, x6x, x4x, x4x, rfl⟩
  obtain rfl : ag = false := hc7
  have hN : i + 1 ≤ l.length ∧ (o ++ [x]).length ≤ 2 * (i + 1) ∧ (o ++ [x]) ++ a6h w false (l.drop (i + 1)) true = a6h w false l false := ⟨by omega, by simp only [r5r, s1s, s3s]; omega, b0v h3 (by rw [p2p hx]; exact f4b hq)⟩
  refine dv 16 fun K K' => ?_
  try have hN : i + 1 ≤ l.length ∧ (o ++ [x]).length ≤ 2 * (i + 1) ∧ (o ++ [x]) ++ a6h w ag (l.drop (i + 1)) false = a6h w ag l false := ⟨by omega, by simp only [r5r, s1s, s3s]; omega, b0v h3 (by rw [p2p hx]; exact d5k hq (by rintro ⟨_, h⟩; omega))⟩
  refine dv 6 ?_
  refine v0v (out := .agg (u3u true x)) rfl v2v rfl ?_
  refine y5y (id := 6) p5p rfl v2v rfl rfl rfl rfl rfl rfl ?_
  refine y6y (zs := (o ++ [x]).map (u3u true)) rfl rfl p5p rfl v2v rfl rfl rfl rfl (by rfl) (u0u _ _ _) (by (simp only [a0b, r5r, s1s, s3s, a0t, a3b, T79]; omega)) ?_
  refine dv 3 ?_
  refine x7x (b := 1) rfl rfl (by omega) (dv 1 ?_)
  exact ⟨(_, _, _), ⟨hN, (by show l.length - (i + 1) < l.length - i; omega)⟩, [0, _, _, _, _, _, _, _], x6x, x6x, x4x, x4x, rfl⟩
 have hq : ¬ x.from' = w.from' := hc6
 refine dc 6 (fun K K' => aS ?_ ?_)<;>intro hg11<;>try simp at hg11
 ·obtain rfl : d = true := hg11
  have hN : i + 1 ≤ l.length ∧ (o ++ [x]).length ≤ 2 * (i + 1) ∧ (o ++ [x]) ++ a6h w ag (l.drop (i + 1)) true = a6h w ag l false := ⟨by omega, by simp only [r5r, s1s, s3s]; omega, b0v h3 (by rw [p2p hx]; exact d5k hq (by simp))⟩
  refine dv 9 ?_
  try have hN : i + 1 ≤ l.length ∧ (o ++ [x]).length ≤ 2 * (i + 1) ∧ (o ++ [x]) ++ a6h w ag (l.drop (i + 1)) false = a6h w ag l false := ⟨by omega, by simp only [r5r, s1s, s3s]; omega, b0v h3 (by rw [p2p hx]; exact d5k hq (by rintro ⟨_, h⟩; omega))⟩
  refine dv 6 ?_
  refine v0v (out := .agg (u3u true x)) rfl v2v rfl ?_
  refine y5y (id := 6) p5p rfl v2v rfl rfl rfl rfl rfl rfl ?_
  refine y6y (zs := (o ++ [x]).map (u3u true)) rfl rfl p5p rfl v2v rfl rfl rfl rfl (by rfl) (u0u _ _ _) (by (simp only [a0b, r5r, s1s, s3s, a0t, a3b, T79]; omega)) ?_
  refine dv 3 ?_
  refine x7x (b := 1) rfl rfl (by omega) (dv 1 ?_)
  exact ⟨(_, _, _), ⟨hN, (by show l.length - (i + 1) < l.length - i; omega)⟩, [0, _, _, _, _, _, _, _], x6x, x6x, x4x, x4x, rfl⟩
 obtain rfl : d = false := hg11
 refine dc 9 (aS ?_ ?_)<;>intro u<;>try simp at u
 ·try have hN : i + 1 ≤ l.length ∧ (o ++ [x]).length ≤ 2 * (i + 1) ∧ (o ++ [x]) ++ a6h w ag (l.drop (i + 1)) false = a6h w ag l false := ⟨by omega, by simp only [r5r, s1s, s3s]; omega, b0v h3 (by rw [p2p hx]; exact d5k hq (by rintro ⟨_, h⟩; omega))⟩
  refine dv 6 ?_
  refine v0v (out := .agg (u3u true x)) rfl v2v rfl ?_
  refine y5y (id := 6) p5p rfl v2v rfl rfl rfl rfl rfl rfl ?_
  refine y6y (zs := (o ++ [x]).map (u3u true)) rfl rfl p5p rfl v2v rfl rfl rfl rfl (by rfl) (u0u _ _ _) (by (simp only [a0b, r5r, s1s, s3s, a0t, a3b, T79]; omega)) ?_
  refine dv 3 ?_
  refine x7x (b := 1) rfl rfl (by omega) (dv 1 ?_)
  exact ⟨(_, _, _), ⟨hN, (by show l.length - (i + 1) < l.length - i; omega)⟩, [0, _, _, _, _, _, _, _], x6x, x6x, x4x, x4x, rfl⟩
 have hN : i + 1 ≤ l.length ∧ (o ++ [w] ++ [x]).length ≤ 2 * (i + 1) ∧ (o ++ [w] ++ [x]) ++ a6h w ag (l.drop (i + 1)) true = a6h w ag l false := ⟨by omega, by simp only [r5r, s1s, s3s]; omega, by rw [List.append_assoc o]; exact b0v h3 (by rw [p2p hx]; exact f4c hq (by omega))⟩
 refine dv 3 ?_
 refine y5y (id := 4) p5p rfl v2v rfl rfl rfl rfl rfl rfl ?_
 refine y6y (zs := (o ++ [w]).map (u3u true)) rfl rfl p5p rfl v2v rfl rfl rfl rfl (by rfl) (u0u _ _ _) (by (simp only [a0b, r5r, s1s, s3s, a0t, a3b, T79]; omega)) ?_
 refine dv 8 ?_
 refine v0v (out := .agg (u3u true x)) rfl v2v rfl ?_
 refine y5y (id := 6) p5p rfl v2v rfl rfl rfl rfl rfl rfl ?_
 refine y6y (zs := (o ++ [w] ++ [x]).map (u3u true)) rfl rfl p5p rfl v2v rfl rfl rfl rfl (by rfl) (u0u _ _ _) (by (simp only [a0b, r5r, s1s, s3s, a0t, a3b, T79]; omega)) ?_
 refine dv 3 ?_
 refine x7x (b := 1) rfl rfl (by omega) (dv 1 ?_)
 exact ⟨(_, _, _), ⟨hN, (by show l.length - (i + 1) < l.length - i; omega)⟩, [0, _, _, _, _, _, _, _], x6x, x6x, x4x, x4x, rfl⟩
theorem b7u (k f t i0 v r g : Int) : a0j Tryz.prog 325 [.agg [pI k, pI f, pI t, pI i0, pI v, pI r, pI g, .pv (.slice none 0 0), .pv (.slice none 0 0), .pv (.slice none 0 0), .pv (.slice none 0 0)]] (v7v true (e3v ⟨k, f, t, i0, v, r, g, [], [], [], []⟩)) := by
 refine pX Tryz.f325 [v7v true (e3v ⟨k, f, t, i0, v, r, g, [], [], [], []⟩)] 4 ?_
 refine dv 1 ?_
 refine y3y (id := 0) rfl rfl rfl (dv 2 ?_)
 refine y1y (id := 1) p5p rfl v2v rfl (dv 5 fun K K' => ?_)
 refine x5x (ι := Nat) (fun i γ1 => [(3, .ref 1 (γ1 1)), (4, pI ((i + 1 : Nat) : Int))]) (fun i γ1 => [(1, ((γ1 1), .row 79 11 ((List.range i).map fun (j : Nat) => [pI k, pI f, pI ((j + 1 : Nat) : Int), pI i0, pI v, pI r, pI g, .pv (.slice none 0 0), .pv (.slice none 0 0), .pv (.slice none 0 0), .pv (.slice none 0 0)]))), (0, ((0 + 1), .box 79 [pI k, pI f, pI (if i = 0 then t else ((i : Nat) : Int)), pI i0, pI v, pI r, pI g, .pv (.slice none 0 0), .pv (.slice none 0 0), .pv (.slice none 0 0), .pv (.slice none 0 0)])), (2, ((γ1 2), .dead)), (3, ((γ1 3), .dead))]) (fun i => i ≤ 2) (fun i => 2 - i) (x8x 1 rfl Cov.nil) HE.nil 0 (by omega) [0, _, _, _] x6x (HE.row rfl (by rfl) (HE.box rfl (by rfl) (HE.kill rfl (HE.kill rfl HE.nil)))) rfl fun i γ1 hi => ?_
 refine dc 4 (fun K K' => aS ?_ ?_)<;>intro u<;>try simp at u
 ·obtain rfl : i = 2 := by omega
  refine dv 4 ?_
  refine c9l (f := fun (j : Nat) => [pI k, pI f, pI ((j + 1 : Nat) : Int), pI i0, pI v, pI r, pI g, .pv (.slice none 0 0), .pv (.slice none 0 0), .pv (.slice none 0 0), .pv (.slice none 0 0)]) (f' := fun (j : Nat) => u3u true ⟨k, f, ((j + 1 : Nat) : Int), i0, v, r, g, [], [], [], []⟩) (l := List.range 2) 1 rfl (fun _ => .same (.same (.same (.same (.same (.same (.same (.le rfl .nil rfl (.le rfl .nil rfl (.le rfl .nil rfl (.le rfl .nil rfl .nil))))))))))) ?_
  refine dv 1 ?_
  exact a4j (l := List.range 2) (l' := List.range 2) (f := fun (j : Nat) => u3u true ⟨k, f, ((j + 1 : Nat) : Int), i0, v, r, g, [], [], [], []⟩) rfl rfl (fun _ => rfl) rfl
 refine dv 10 fun K K' => ?_
 refine y5y (id := 2) p5p rfl v2v rfl rfl rfl rfl rfl rfl ?_
 refine y6y (zs := ((List.range i).map fun (j : Nat) => [pI k, pI f, pI ((j + 1 : Nat) : Int), pI i0, pI v, pI r, pI g, .pv (.slice none 0 0), .pv (.slice none 0 0), .pv (.slice none 0 0), .pv (.slice none 0 0)]) ++ [[pI k, pI f, pI ((i + 1 : Nat) : Int), pI i0, pI v, pI r, pI g, .pv (.slice none 0 0), .pv (.slice none 0 0), .pv (.slice none 0 0), .pv (.slice none 0 0)]]) rfl rfl p5p rfl v2v rfl rfl rfl rfl (by rfl) rfl (by (simp only [a0b, r5r, s1s, s3s, a0t, a3b, T79]; omega)) ?_
 refine dv 3 ?_
 refine x7x (b := 1) rfl rfl (by omega) (dv 1 ?_)
 exact ⟨i + 1, ⟨by omega, by omega⟩, [0, _, _, _], x6x, x6x, (HE.row rfl (by rw [List.range_succ, List.map_append]; rfl) (HE.box rfl (by rw [if_neg (by omega : ¬ i + 1 = 0)] <;> rfl) (HE.kill rfl (HE.kill rfl HE.nil)))), x4x, rfl⟩
theorem c2z (k f t i0 v r g : Int) : Meth Tryz.prog 325 1 [] [.agg [pI k, pI f, pI t, pI i0, pI v, pI r, pI g, .pv (.slice none 0 0), .pv (.slice none 0 0), .pv (.slice none 0 0), .pv (.slice none 0 0)]] [(0, (0, .dead))] (.ref 0 0) [(0, (0, .row 79 11 ((e3v ⟨k, f, t, i0, v, r, g, [], [], [], []⟩).map (u3u true))))] := by
 refine mX Tryz.f325 [.ref 0 0] 1 3 fun γ => ?_
 refine dv 1 ?_
 refine y3y (id := 1) rfl rfl rfl (dv 2 ?_)
 refine y1y (id := 0) p5p rfl v2v rfl (dv 5 fun K K' => ?_)
 refine x5x (ι := Nat) (fun i γ1 => [(3, .ref 0 (γ1 0)), (4, pI ((i + 1 : Nat) : Int))]) (fun i γ1 => [(0, ((γ1 0), .row 79 11 ((List.range i).map fun (j : Nat) => [pI k, pI f, pI ((j + 1 : Nat) : Int), pI i0, pI v, pI r, pI g, .pv (.slice none 0 0), .pv (.slice none 0 0), .pv (.slice none 0 0), .pv (.slice none 0 0)]))), (1, ((0 + 1), .box 79 [pI k, pI f, pI (if i = 0 then t else ((i : Nat) : Int)), pI i0, pI v, pI r, pI g, .pv (.slice none 0 0), .pv (.slice none 0 0), .pv (.slice none 0 0), .pv (.slice none 0 0)])), (2, ((γ1 2), .dead)), (3, ((γ1 3), .dead))]) (fun i => i ≤ 2) (fun i => 2 - i) (x8x 1 rfl Cov.nil) HE.nil 0 (by omega) [_, 0, _, _] x6x (HE.row rfl (by rfl) (HE.box rfl (by rfl) (HE.kill rfl (HE.kill rfl HE.nil)))) rfl fun i γ1 hi => ?_
 refine dc 4 (fun K K' => aS ?_ ?_)<;>intro u<;>try simp at u
 ·obtain rfl : i = 2 := by omega
  refine dv 4 ?_
  refine c9l (f := fun (j : Nat) => [pI k, pI f, pI ((j + 1 : Nat) : Int), pI i0, pI v, pI r, pI g, .pv (.slice none 0 0), .pv (.slice none 0 0), .pv (.slice none 0 0), .pv (.slice none 0 0)]) (f' := fun (j : Nat) => u3u true ⟨k, f, ((j + 1 : Nat) : Int), i0, v, r, g, [], [], [], []⟩) (l := List.range 2) 0 rfl (fun _ => .same (.same (.same (.same (.same (.same (.same (.le rfl .nil rfl (.le rfl .nil rfl (.le rfl .nil rfl (.le rfl .nil rfl .nil))))))))))) ?_
  refine dv 1 ?_
  exact ⟨[_], rfl, rfl, x4x⟩
 refine dv 10 fun K K' => ?_
 refine y5y (id := 2) p5p rfl v2v rfl rfl rfl rfl rfl rfl ?_
 refine y6y (zs := ((List.range i).map fun (j : Nat) => [pI k, pI f, pI ((j + 1 : Nat) : Int), pI i0, pI v, pI r, pI g, .pv (.slice none 0 0), .pv (.slice none 0 0), .pv (.slice none 0 0), .pv (.slice none 0 0)]) ++ [[pI k, pI f, pI ((i + 1 : Nat) : Int), pI i0, pI v, pI r, pI g, .pv (.slice none 0 0), .pv (.slice none 0 0), .pv (.slice none 0 0), .pv (.slice none 0 0)]]) rfl rfl p5p rfl v2v rfl rfl rfl rfl (by rfl) rfl (by (simp only [a0b, r5r, s1s, s3s, a0t, a3b, T79]; omega)) ?_
 refine dv 3 ?_
 refine x7x (b := 1) rfl rfl (by omega) (dv 1 ?_)
 exact ⟨i + 1, ⟨by omega, by omega⟩, [_, 0, _, _], x6x, x6x, (HE.row rfl (by rw [List.range_succ, List.map_append]; rfl) (HE.box rfl (by rw [if_neg (by omega : ¬ i + 1 = 0)] <;> rfl) (HE.kill rfl (HE.kill rfl HE.nil)))), x4x, rfl⟩
theorem c8e (l : List Wo) (f : Int) : a0j Tryz.prog 329 [v7v true l, .pv (.int .i64 f)] (.tup [.agg (u3u true (f2e f l)), .pv (.bool (b5w f l).isSome)]) := by
 refine pX Tryz.f329 [.agg (u3u true (f2e f l)), .pv (.bool (b5w f l).isSome)] 1 ?_
 refine u9u 0 rfl fun hlen => ?_
 refine dv 1 ?_
 refine x3x (id := 0) v2v a6n rfl (dv 5 fun K K' => ?_)
 refine x5x (ι := Nat) (fun i γ1 => [(6, pI (i : Int))]) (fun i γ1 => []) (fun i => i ≤ l.length ∧ c6w l (fun _ w => ¬ w.from' = f) i) (fun i => l.length - i) (r2r [0, 1, 4] rfl) (w9w 0 rfl HE.nil) 0 ⟨by omega, a0v⟩ [] x6x x4x rfl fun i γ1 hi => ?_
 obtain ⟨h1, h2⟩ := hi
 refine dc 6 (fun K K' => aS ?_ ?_)<;>intro u<;>try simp at u
 ·have hno := e6b (a2i h2 (by omega))
  refine dv 2 ?_
  refine rlB v2v a6n ?_
  refine dv 3 ?_
  (rw [f2e, hno]; exact ⟨_, _, rfl, c7l (.cl rfl .nil)⟩)
 obtain ⟨w, hw⟩ := gE l i
 refine dc 11 (fun K K' => aS ?_ ?_)<;>intro hc5<;>try simp at hc5
 ·have hne : ¬ w.from' = f := hc5
  refine dv 3 ?_
  refine x7x (b := 1) rfl rfl (by omega) (dv 1 ?_)
  exact ⟨i + 1, ⟨⟨by omega, r0r h2 hw hne⟩, by omega⟩, [], x6x, x6x, x4x, x4x, rfl⟩
 have hat := d5l h2 hw hc5
 refine dv 4 ?_
 refine v0v (out := .agg (u3u true w)) rfl v2v rfl ?_
 refine dv 3 ?_
 (rw [f2e, hat]; exact ⟨_, _, rfl, .agg rfl (.cl rfl (.cl rfl (.cl rfl (.cl rfl (.cl rfl (.cl rfl (.cl rfl (.cl rfl (.cl rfl (.cl rfl (.cl rfl (.nil)))))))))))) (.cl rfl .nil)⟩)
theorem c3a (c : Bool) (h : Hb) : a0j Tryz.prog 332 [.agg (a7d c h)] (.tup [.pv (.int .i64 (p8p h).1), .pv (.bool (p8p h).2)]) := by
 refine pX Tryz.f332 [.pv (.int .i64 (p8p h).1), .pv (.bool ((p8p h).2))] 1 ?_
 refine dv 1 ?_
 refine y3y (id := 0) rfl rfl rfl (dv 5 fun K K' => ?_)
 refine x0x rfl rfl rfl (a8s ..) (dc 2 (aS ?_ ?_))<;>intro hg2<;>try simp at hg2
 ·have hX : ¬ a6p h := fun q => a0p (by simpa using hg2) q.1
  refine dv 11 ?_
  try have hX : ¬ a6p h := fun q => by have := q.2.1; have := q.2.2.1; omega
  refine dv 4 ?_
  (rw [b5x hX]; exact ⟨_, _, rfl, .cl rfl (.cl rfl .nil)⟩)
 have hK : s9s h := a0o.1 (by simpa using hg2)
 refine dc 6 (aS ?_ ?_)<;>intro u<;>try simp at u
 ·refine dv 5 ?_
  try have hX : ¬ a6p h := fun q => by have := q.2.1; have := q.2.2.1; omega
  refine dv 4 ?_
  (rw [b5x hX]; exact ⟨_, _, rfl, .cl rfl (.cl rfl .nil)⟩)
 refine dc 5 (aI ?_ ?_)<;>intro u<;>try simp at u
 ·try have hX : ¬ a6p h := fun q => by have := q.2.1; have := q.2.2.1; omega
  refine dv 4 ?_
  (rw [b5x hX]; exact ⟨_, _, rfl, .cl rfl (.cl rfl .nil)⟩)
 have e1 : h.ones.length = 3 := by omega
 have e2 : h.twos.length = 3 := by omega
 refine dv 7 fun K K' => ?_
 refine x5x (ι := Nat) (fun i γ1 => [(4, pI (a1c 41 (h.ones.take i))), (5, pI (i : Int))]) (fun i γ1 => []) (fun i => i ≤ 3 ∧ ∀ j, j < i → e2c h j) (fun i => 3 - i) (x8x 1 rfl Cov.nil) (w9w 0 rfl HE.nil) 0 ⟨by omega, fun j hj => by omega⟩ [] (Cov.cons' (t := 4) rfl (rfl) (x8x 5 rfl Cov.nil)) x4x rfl fun i γ1 hi => ?_
 obtain ⟨h1, h1b⟩ := hi
 refine dc 4 (fun K K' => aS ?_ ?_)<;>intro u<;>try simp at u
 ·obtain rfl : i = 3 := by omega
  have hT : a6p h := ⟨hK, e1, e2, fun j hj => h1b j hj⟩
  have e3 : a1c 41 (h.ones.take 3) = a1c 41 h.ones := by rw [List.take_of_length_le (by omega)]
  refine dv 6 ?_
  (rw [f0y hT, ← e3]; exact ⟨_, _, rfl, .cl rfl (.cl rfl .nil)⟩)
 obtain ⟨a, ha⟩ := gE h.ones i
 obtain ⟨b, hb⟩ := gE h.twos i
 refine dc 18 (fun K K' K K' => aI ?_ ?_)<;>intro hc10<;>try simp at hc10
 ·have hX : ¬ a6p h := fun q => by have := (q.2.2.2 i (by omega) a b ha hb).1; omega
  refine dv 4 ?_
  (rw [b5x hX]; exact ⟨_, _, rfl, .cl rfl (.cl rfl .nil)⟩)
 have hI : a.inc = b.inc := hc10
 refine dv 1 ?_
 refine q8q (ι := Unit) (fun _i γ2 => [(4, pI (a1c 41 (h.ones.take (i + 1))))]) (fun _i γ2 => []) (fun _i => True) (r2r [1, 5] rfl) (w9w 0 rfl HE.nil) ?_ fun _i γ2 hi => ?_
 ·refine dc 9 (aS ?_ ?_)<;>intro u<;>try simp at u
  ·have hlt : ¬ a.g < a1c 41 (h.ones.take i) := by omega
   refine dv 1 ?_
   exact ⟨(), trivial, [], (Cov.cons' (t := 4) rfl (congrArg (fun v : Int => AV.pv (.int .i64 v)) (d5n ha hlt)) Cov.nil), x6x, x4x, x4x, rfl⟩
  have hlt : a.g < a1c 41 (h.ones.take i) := by omega
  refine dv 8 ?_
  exact ⟨(), trivial, [], (Cov.cons' (t := 4) rfl (congrArg (fun v : Int => AV.pv (.int .i64 v)) (d5m ha hlt)) Cov.nil), x6x, x4x, x4x, rfl⟩
 ·try dsimp only [b2t, b2u]
  refine dv 3 ?_
  refine x5x (ι := Nat) (fun k γ3 => [(6, pI (k : Int))]) (fun k γ3 => []) (fun k => k ≤ 3 ∧ ∀ (q : Nat) x, q < k → q ≠ i → h.ones[q]? = some x → x.incs.getD i 0 = b.inc ∧ x.versions.getD i 0 = b.version) (fun k => 3 - k) (r2r [1, 4, 5] rfl) (w9w 0 rfl HE.nil) 0 ⟨by omega, fun q x hq => by omega⟩ [] x6x x4x rfl fun k γ3 hi => ?_
  obtain ⟨h2, h2b⟩ := hi
  refine dc 4 (fun K K' => aS ?_ ?_)<;>intro u<;>try simp at u
  ·have hJ : e2c h i := fun a2 b2 ha2 hb2 => by rw [ha] at ha2; rw [hb] at hb2; cases ha2; cases hb2; exact ⟨hI, fun q x hne hx => h2b q x (by have := (List.getElem?_eq_some_iff.1 hx).1; omega) hne hx⟩
   refine dv 3 ?_
   refine x7x (b := 1) rfl rfl (by omega) (dv 1 ?_)
   exact ⟨i + 1, ⟨⟨by omega, fun j hj => by rcases Nat.lt_succ_iff_lt_or_eq.1 hj with q | q; exact h1b j q; subst q; exact hJ⟩, by omega⟩, [], x6x, x6x, x4x, x4x, rfl⟩
  obtain ⟨x0, hx0⟩ := gE h.ones k
  have hfu := hK.2.2.2.2 x0 (List.mem_of_getElem? hx0)
  obtain ⟨fu1, fu2⟩ := hfu
  obtain ⟨z, hz⟩ := gE x0.incs i
  obtain ⟨y, hy⟩ := gE x0.versions i
  refine dc 8 (fun K K' => aS ?_ ?_)<;>intro u<;>try simp at u
  ·refine dv 35 ?_
   have hS : k ≠ i → x0.incs.getD i 0 = b.inc ∧ x0.versions.getD i 0 = b.version := fun hne => by rw [b2r hz, b2r hy]; omega
   refine dv 3 ?_
   refine x7x (b := 1) rfl rfl (by omega) (dv 1 ?_)
   exact ⟨k + 1, ⟨⟨by omega, fun q x hq hne hx => by rcases Nat.lt_succ_iff_lt_or_eq.1 hq with q1 | q1; exact h2b q x q1 hne hx; subst q1; rw [hx0] at hx; cases hx; exact hS hne⟩, by omega⟩, [], x6x, x6x, x4x, x4x, rfl⟩
  refine dc 17 (aS ?_ ?_)<;>intro u<;>try simp at u
  ·refine dv 18 ?_
   have hX : ¬ a6p h := fun q => by have := (q.2.2.2 i (by omega) a b ha hb).2 k x0 (by omega) hx0; rw [b2r hz, b2r hy] at this; omega
   refine dv 4 ?_
   (rw [b5x hX]; exact ⟨_, _, rfl, .cl rfl (.cl rfl .nil)⟩)
  refine dc 18 (aI ?_ ?_)<;>intro u<;>try simp at u
  ·have hX : ¬ a6p h := fun q => by have := (q.2.2.2 i (by omega) a b ha hb).2 k x0 (by omega) hx0; rw [b2r hz, b2r hy] at this; omega
   refine dv 4 ?_
   (rw [b5x hX]; exact ⟨_, _, rfl, .cl rfl (.cl rfl .nil)⟩)
  have hS : k ≠ i → x0.incs.getD i 0 = b.inc ∧ x0.versions.getD i 0 = b.version := fun hne => by rw [b2r hz, b2r hy]; omega
  refine dv 3 ?_
  refine x7x (b := 1) rfl rfl (by omega) (dv 1 ?_)
  exact ⟨k + 1, ⟨⟨by omega, fun q x hq hne hx => by rcases Nat.lt_succ_iff_lt_or_eq.1 hq with q1 | q1; exact h2b q x q1 hne hx; subst q1; rw [hx0] at hx; cases hx; exact hS hne⟩, by omega⟩, [], x6x, x6x, x4x, x4x, rfl⟩
end
section
theorem c4e (c : Bool) (n : Nd) (fS : a1e n) (i : Nat) (l : La) (hl : n.lanes[i]? = some l) : a0j Tryz.prog 141 [.agg (u1u c n), .pv (.int .i64 (i : Int))] (.tup [.agg (z1z (a9t l (a1k n l.proc)).1), .pv (.bool (a9t l (a1k n l.proc)).2)]) := by
 refine pX Tryz.f141 [.agg (z1z (a9t l (a1k n l.proc)).1), .pv (.bool (a9t l (a1k n l.proc)).2)] 2 ?_
 have fB := w2w fS
 refine dv 1 ?_
 refine y3y (id := 0) rfl rfl rfl (x3x (id := 1) z4z a8g rfl (dv 14 ?_))
 refine x0x rfl rfl rfl (a4d c n l.proc (a7o fS) (by omega) fS.2.2.2.2.2.1) ?_
 refine x0x rfl rfl rfl (b3c c true l (a1k n l.proc)) ?_
 refine dv 5 ?_
 exact ⟨_, _, rfl, .agg rfl (.cl rfl (.cl rfl (.cl rfl (.cl rfl (.cl rfl (.cl rfl (.cl rfl .nil))))))) (.cl rfl .nil)⟩
theorem b4u (c : Bool) (n : Nd) : a0j Tryz.prog 44 [.agg (u1u c n)] (.pv (.int .i64 (b8y n))) := by
 refine pX Tryz.f44 [.pv (.int .i64 (b8y n))] 2 ?_
 refine dv 1 ?_
 refine y3y (id := 0) rfl rfl rfl (dv 6 fun K K' => ?_)
 refine x0x rfl rfl rfl (w0w ..) (dc 1 (aI ?_ ?_))<;>intro hc2<;>try simp at hc2
 ·have fX : ¬ y0y n := a0p (by simpa using hc2)
  refine dv 3 ?_
  refine x2x rfl ?_ rfl
  exact congrArg (fun v : Int => [AV.pv (.int .i64 v)]) (e0t fX).symm
 have fK : y0y n := a0o.1 (by simpa using hc2)
 have fS := fK.1
 have fB := w2w fS
 refine dv 5 fun K K' => ?_
 refine x5x (ι := Nat) (fun i γ1 => [(3, pI (b1p n i)), (4, pI (i : Int))]) (fun i γ1 => [(1, ((γ1 1), .dead))]) (fun i => i ≤ n.lanes.length) (fun i => n.lanes.length - i) (x8x 1 rfl Cov.nil) (w9w 0 rfl HE.nil) 0 (by omega) [0, _] x6x x4x rfl fun i γ1 hi => ?_
 refine dc 7 (fun K K' => aS ?_ ?_)<;>intro j<;>try simp at j
 ·obtain rfl : i = n.lanes.length := by omega
  refine dv 5 ?_
  refine x2x rfl ?_ rfl
  exact congrArg (fun v : Int => [AV.pv (.int .i64 v)]) (c2a fK).symm
 obtain ⟨l, hl⟩ := gE n.lanes i
 have hnc := c2b fK hl
 refine dv 6 fun K K' => ?_
 refine x0x rfl rfl rfl (c4e c n fS i l hl) (dv 3 ?_)
 refine x3x (id := 1) z4z a8g rfl (dv 2 ?_)
 rw [b8x ⟨hnc.2.1, hnc.2.2.1⟩]
 refine dc 3 (aS ?_ ?_)<;>intro hg7<;>try simp at hg7
 ·have hno : ¬ ((a5i l (a1k n l.proc)).2 = true ∧ (a5i l (a1k n l.proc)).1.time < b1p n i) := fun h => by have := h.1; simp_all
  refine dv 8 ?_
  refine x7x (b := 1) rfl rfl (by omega) (dv 1 ?_)
  exact ⟨i + 1, ⟨by omega, by omega⟩, [0, _], (Cov.cons' (t := 3) rfl (congrArg (fun v : Int => AV.pv (.int .i64 v)) (d2h hl hno).symm) (x8x 4 rfl Cov.nil)), x6x, x4x, x4x, rfl⟩
 have h2 : (a5i l (a1k n l.proc)).2 = true := hg7
 refine dc 5 (aS ?_ ?_)<;>intro j<;>try simp at j
 ·have hno : ¬ ((a5i l (a1k n l.proc)).2 = true ∧ (a5i l (a1k n l.proc)).1.time < b1p n i) := by (intro h; omega)
  refine dv 3 ?_
  refine x7x (b := 1) rfl rfl (by omega) (dv 1 ?_)
  exact ⟨i + 1, ⟨by omega, by omega⟩, [0, _], (Cov.cons' (t := 3) rfl (congrArg (fun v : Int => AV.pv (.int .i64 v)) (d2h hl hno).symm) (x8x 4 rfl Cov.nil)), x6x, x4x, x4x, rfl⟩
 have h3 : (a5i l (a1k n l.proc)).1.time < b1p n i := by omega
 refine dv 6 ?_
 refine x7x (b := 1) rfl rfl (by omega) (dv 1 ?_)
 exact ⟨i + 1, ⟨by omega, by omega⟩, [0, _], (Cov.cons' (t := 3) rfl (congrArg (fun v : Int => AV.pv (.int .i64 v)) (e0s hl ⟨h2, h3⟩).symm) (x8x 4 rfl Cov.nil)), x6x, x4x, x4x, rfl⟩
end
section
theorem b0a (c : Bool) (n : Nd) (r : Int) : a0j Tryz.prog 61 [.agg (u1u c n), .pv (.int .i64 r)] (.tup [.agg (u1u true (u5u n r).1), .agg (u3u true (u5u n r).2.1), .pv (.bool (u5u n r).2.2)]) := by
 refine pX Tryz.f61 [.agg (u1u true (u5u n r).1), .agg (u3u true (u5u n r).2.1), .pv (.bool (u5u n r).2.2)] 14 ?_
 refine dv 1 ?_
 refine y3y (id := 0) rfl rfl rfl (x3x (id := 1) u6u q4q rfl (x3x (id := 2) v2v a6n rfl (dv 4 fun K K' => ?_)))
 refine x0x rfl rfl rfl (w0w ..) (dc 1 (aI ?_ ?_))<;>intro hc2<;>try simp at hc2
 ·have fX : ¬ y0y n := a0p (by simpa using hc2)
  refine dv 1 ?_
  refine rlB u6u q4q ?_
  refine rlB v2v a6n ?_
  refine dv 4 ?_
  (rw [e5a fX]; exact ⟨_, _, rfl, b5s (c7l (.cl rfl .nil))⟩)
 have fK : y0y n := a0o.1 (by simpa using hc2)
 have fS := fK.1
 have fB := w2w fS
 have fV := fS.2.2.2.2.2.1
 have fb := b8v fS
 refine dv 3 ?_
 refine rlM [9, 10, 11] [_, _, _] (y2y c n fb) rfl rfl rfl ?_
 refine x3x (id := 3) u6u q4q rfl (dc 7 (fun K K' => aS ?_ ?_))<;>intro hg4<;>try simp at hg4
 ·have fU : ¬ (n.up = true ∧ n.round + 1 ≤ r ∧ r ≤ 9999) := fun h => by have := h.1; simp_all
  refine dv 10 ?_
  refine rlB v2v a6n ?_
  refine dv 4 ?_
  (rw [d4t fK fU]; exact ⟨_, _, rfl, q1q rfl rfl rfl (c7l (.cl rfl .nil))⟩)
 have fUp : n.up = true := hg4
 refine dv 3 ?_
 refine a0g (.int .i64 (n.round + 1)) rfl rfl rfl (a8v rfl rfl (by have := fS.1.2.2.2.2.2.1; omega) (by have := fS.1.2.2.2.2.2.1; omega)) ?_
 refine dv 0 ?_
 refine x0x rfl rfl rfl (z9z ..) (dv 0 ?_)
 refine x0x rfl rfl rfl (y7y ..) (dc 2 (aI ?_ ?_))<;>intro j<;>try simp at j
 ·have fU : ¬ (n.up = true ∧ n.round + 1 ≤ r ∧ r ≤ 9999) := by (intro h; omega)
  refine dv 2 ?_
  refine rlB v2v a6n ?_
  refine dv 4 ?_
  (rw [d4t fK fU]; exact ⟨_, _, rfl, q1q rfl rfl rfl (c7l (.cl rfl .nil))⟩)
 have fU : n.up = true ∧ n.round + 1 ≤ r ∧ r ≤ 9999 := ⟨fUp, by omega⟩
 refine dv 15 ?_
 refine x0x rfl rfl rfl (b4u ..) (rlB v2v a6n ?_)
 refine x3x (id := 4) v2v a6n rfl (dv 5 fun K K' => ?_)
 refine a1d 4 7 12 3 1 rfl rfl rfl rfl rfl (a1d 4 8 13 3 1 rfl rfl rfl rfl rfl ?_)
 refine x5x (ι := Nat) (fun i γ1 => [(9, pI (i : Int))]) (fun i γ1 => [(12, ((γ1 12), .row 3 1 (((n.views.take i).map Vi.inc).map a6j))), (13, ((γ1 13), .row 3 1 (((n.views.take i).map Vi.version).map a6j))), (4, ((0 + 1), .box 79 [pI 3, pI n.id, pI 0, pI n.inc, pI 0, pI r, pI (b8y n), .ref 12 (γ1 12), .ref 13 (γ1 13), .pv (.slice none 0 0), .pv (.slice none 0 0)])), (5, ((γ1 5), .dead)), (6, ((γ1 6), .dead)), (7, ((γ1 7), .dead)), (8, ((γ1 8), .dead))]) (fun i => i ≤ 3) (fun i => 3 - i) (r2r [2, 4, 5, 7, 8] rfl) (a1p [0, 1, 2, 3, 9, 10, 11] rfl) 0 (by omega) [0, 0, 0, 0, 0, _, _, _, _, 0, 0, 0, _, _] x6x (HE.row rfl (by rw [List.take_zero]; rfl) (HE.row rfl (by rw [List.take_zero]; rfl) (HE.box rfl rfl (HE.kill rfl (HE.kill rfl (HE.kill rfl (HE.kill rfl HE.nil))))))) rfl fun i γ1 hi => ?_
 refine dc 4 (fun K K' => aS ?_ ?_)<;>intro j<;>try simp at j
 ·obtain rfl : i = n.views.length := by omega
  rw [List.take_length]
  refine dv 8 ?_
  (rw [e5b fK fU, show e0u n r = { e0u n r with g := b8y n } from by rw [c2a fK]; rfl]; exact ⟨_, _, rfl, q1q (n := { n with round := r, low := 41 }) rfl rfl rfl (.agg rfl (.cl rfl (.cl rfl (.cl rfl (.cl rfl (.cl rfl (.cl rfl (.cl rfl (.ref rfl (Le.ow_map _ (fun _ => rfl) (fun _ => rfl)) (.ref rfl (Le.ow_map _ (fun _ => rfl) (fun _ => rfl)) (.le rfl .nil (.le rfl .nil .nil))))))))))) (.cl rfl .nil))⟩)
 obtain ⟨v, hv⟩ := gE n.views i
 refine dv 12 fun K K' => ?_
 refine a9o (id := 5) a0k rfl r3r rfl rfl rfl rfl rfl ?_
 refine y6y (zs := ((n.views.take i).map Vi.inc ++ [v.inc]).map a6j) rfl rfl a0k rfl r3r rfl rfl rfl rfl (by rfl) (u0u _ _ _) (by (simp only [a0b, r5r, s1s, s3s, a0t, T3]; omega)) ?_
 refine dv 11 ?_
 refine a9o (id := 7) a0k rfl r3r rfl rfl rfl rfl rfl ?_
 refine y6y (zs := ((n.views.take i).map Vi.version ++ [v.version]).map a6j) rfl rfl a0k rfl r3r rfl rfl rfl rfl (by rfl) (u0u _ _ _) (by (simp only [a0b, r5r, s1s, s3s, a0t, T3]; omega)) ?_
 refine dv 4 ?_
 refine u7u rfl rfl rfl (dv 1 ?_)
 exact ⟨i + 1, ⟨by omega, by omega⟩, [0, 0, 0, 0, 0, _, _, _, _, 0, 0, 0, _, _], (Cov.cons' (t := 9) rfl (by rw [x9x (by omega) (by omega)]; rfl) Cov.nil), x6x, (HE.row rfl (by simp only [z5z hv, List.map_append, List.map_cons, List.map_nil]) (HE.row rfl (by simp only [z5z hv, List.map_append, List.map_cons, List.map_nil]) (HE.box rfl rfl (HE.kill rfl (HE.kill rfl (HE.kill rfl (HE.kill rfl HE.nil))))))), x4x, rfl⟩
end
section
theorem b9k (c : Bool) (l : La) (u : Int) (hok : a5n l = true) : a0j Tryz.prog 25 [.agg (r4r c l), .pv (.int .i64 u)] (.tup [.agg (r4r true (b5q u l)), a0m true (b9a u l), r8r true (c7f u l)]) := by
 refine pX Tryz.f25 [.agg (r4r true (b5q u l)), a0m true (b9a u l), r8r true (c7f u l)] 8 ?_
 obtain ⟨h1, h2⟩ := a1g hok
 have hlb := e9x hok
 refine dv 1 ?_
 refine y3y (id := 0) rfl rfl rfl (x3x (id := 1) a0y a9m rfl (dv 3 ?_))
 refine y1y (id := 2) v6v rfl z4z rfl (dv 2 ?_)
 refine y1y (id := 3) a0c rfl v9v rfl (dv 4 fun K K' => ?_)
 refine x0x rfl rfl rfl (a3r ..) (dv 1 ?_)
 refine a0f rfl (fun hc2 => ?_) (fun hc2 => ?_)
 ·simp [hok] at hc2
 try simp at hc2
 refine dv 6 ?_
 refine x3x (id := 4) a7q c8u rfl (dv 3 fun K K' => ?_)
 refine x5x (ι := Nat) (fun i γ1 => [(7, .ref 2 (γ1 2)), (8, .ref 3 (γ1 3)), (9, pI (i : Int))]) (fun i γ1 => [(2, ((γ1 2), .row 56 7 (((l.done.take i).flatMap Pa.sends).map z1z))), (3, ((γ1 3), .row 141 5 (((l.done.take i).flatMap Pa.outs).map q5q))), (4, ((0 + 1), .box 41 [pI (a6g l i).x, pI (a6g l i).y, pI (a6g l i).count])), (5, ((γ1 5), .dead)), (6, ((γ1 6), .dead))]) (fun i => i ≤ l.done.length ∧ (∀ (j : Nat) p, j < i → l.done[j]? = some p → p.ev.time < u)) (fun i => l.done.length - i) (r2r [1, 2, 4, 10] rfl) (a1p [0, 1, 7] rfl) 0 ⟨by omega, fun j p hj => by omega⟩ [0, 0, _, _, 0, _, _] x6x (HE.row rfl (by rfl) (HE.row rfl (by rfl) (HE.box rfl rfl (HE.kill rfl (HE.kill rfl HE.nil))))) rfl fun i γ1 hi => ?_
 obtain ⟨k1, k2⟩ := hi
 refine dc 8 (fun K K' => aS ?_ ?_)<;>intro h<;>try simp at h
 ·have hcut : c0m u l.done = i := d2j k1 k2 (fun q hq => by rw [List.getElem?_eq_none (by omega)] at hq; cases hq)
  refine dv 9 ?_
  refine a0f rfl (fun hc7 => ?_) (fun hc7 => ?_)
  ·simp [hok] at hc7
  try simp at hc7
  have hfs := b2j (f := Pa.sends) (m := 2) k1 fun p hp => (h2 p hp).1
  have hfo := b2j (f := Pa.outs) (m := 2) k1 fun p hp => (h2 p hp).2
  refine dv 7 ?_
  refine x0x rfl rfl rfl (a2t c l i l.done.length hlb.1 (by omega) hlb.1 hlb.2) ?_
  refine x3x (id := 7) a0y a9m rfl (dv 4 ?_)
  refine a0n rfl rfl a7q rfl rfl rfl rfl (r9r rfl) rfl ?_
  refine r6r 7 rfl rfl (fun _ => rfl) ?_
  refine r6r 8 rfl rfl (fun _ => rfl) ?_
  refine dv 3 ?_
  refine x0x rfl rfl rfl (a1i true _ (by omega)) ?_
  refine dv 1 ?_
  refine x0x rfl rfl rfl (a4c true _ (by omega)) ?_
  refine dv 4 ?_
  subst hcut
  rw [show b5q u l = ⟨l.proc, a6g l (c0m u l.done), (l.done.take l.done.length).drop (c0m u l.done)⟩ from by rw [List.take_length]; rfl]
  exact ⟨_, _, rfl, .agg rfl (.cl rfl (.cl rfl (.cl rfl (.cl rfl (.cl rfl .nil))))) (.cl rfl (.cl rfl .nil))⟩
 obtain ⟨p, hp⟩ := gE l.done i
 have hpb := h2 p (List.mem_of_getElem? hp)
 refine dc 10 (aS ?_ ?_)<;>intro hc6<;>try simp at hc6
 ·have hcut : c0m u l.done = i := by exact d2j k1 k2 (fun q hq => by rw [hp] at hq; cases hq; omega)
  have hfs := b2j (f := Pa.sends) (m := 2) k1 fun p hp => (h2 p hp).1
  have hfo := b2j (f := Pa.outs) (m := 2) k1 fun p hp => (h2 p hp).2
  refine dv 7 ?_
  refine x0x rfl rfl rfl (a2t c l i l.done.length hlb.1 (by omega) hlb.1 hlb.2) ?_
  refine x3x (id := 7) a0y a9m rfl (dv 4 ?_)
  refine a0n rfl rfl a7q rfl rfl rfl rfl (r9r rfl) rfl ?_
  refine r6r 7 rfl rfl (fun _ => rfl) ?_
  refine r6r 8 rfl rfl (fun _ => rfl) ?_
  refine dv 3 ?_
  refine x0x rfl rfl rfl (a1i true _ (by omega)) ?_
  refine dv 1 ?_
  refine x0x rfl rfl rfl (a4c true _ (by omega)) ?_
  refine dv 4 ?_
  subst hcut
  rw [show b5q u l = ⟨l.proc, a6g l (c0m u l.done), (l.done.take l.done.length).drop (c0m u l.done)⟩ from by rw [List.take_length]; rfl]
  exact ⟨_, _, rfl, .agg rfl (.cl rfl (.cl rfl (.cl rfl (.cl rfl (.cl rfl .nil))))) (.cl rfl (.cl rfl .nil))⟩
 have hlt : p.ev.time < u := hc6
 have hfs := b2j (f := Pa.sends) (m := 2) (show i ≤ l.done.length by omega) fun p hp => (h2 p hp).1
 have hfo := b2j (f := Pa.outs) (m := 2) (show i ≤ l.done.length by omega) fun p hp => (h2 p hp).2
 refine dv 8 ?_
 refine v0v (out := .agg (a2b p.after)) rfl a7q rfl ?_
 refine dv 9 ?_
 refine w6w (zs := ((l.done.take i).flatMap Pa.sends ++ p.sends).map z1z) rfl rfl v6v rfl z4z rfl rfl rfl (z8z (fun _ => rfl) _) (a7s _ _ _) (by (simp only [a0b, r5r, s1s, s3s, a0t, b2s, T56]; omega)) ?_
 refine dv 9 ?_
 refine w6w (zs := ((l.done.take i).flatMap Pa.outs ++ p.outs).map q5q) rfl rfl a0c rfl v9v rfl rfl rfl (z8z (fun _ => rfl) _) (a7s _ _ _) (by (simp only [a0b, r5r, s1s, s3s, a0t, b2s, T141]; omega)) ?_
 refine dv 3 ?_
 refine x7x (b := 1) rfl rfl (by omega) (dv 1 ?_)
 exact ⟨i + 1, ⟨⟨by omega, fun j q hj hq => by by_cases e : j = i; (subst e; rw [hp] at hq; cases hq; exact hlt); exact k2 j q (by omega) hq⟩, by omega⟩, [0, 0, _, _, 0, _, _], x6x, x6x, (HE.row rfl (by rw [a2m hp]) (HE.row rfl (by rw [a2m hp]) (HE.box rfl (by rw [b5p hp]; rfl) (HE.kill rfl (HE.kill rfl HE.nil))))), x4x, rfl⟩
end
section
theorem b0c (c : Bool) (n : Nd) (r g : Int) : a0j Tryz.prog 67 [.agg (u1u c n), .pv (.int .i64 r), .pv (.int .i64 g)] (.tup [.agg (u1u true (q6q n r g).1), .pv (.bool (q6q n r g).2)]) := by
 refine pX Tryz.f67 [.agg (u1u true (q6q n r g).1), .pv (.bool (q6q n r g).2)] 19 ?_
 refine dv 1 ?_
 refine y3y (id := 0) rfl rfl rfl (x3x (id := 1) u6u q4q rfl (dv 4 fun K K' => ?_))
 refine x0x rfl rfl rfl (w0w c n) (dc 1 (aI ?_ ?_))<;>intro hc2<;>try simp at hc2
 ·have fX : ¬ y0y n := a0p (by simpa using hc2)
  refine dv 1 ?_
  refine rlB u6u q4q ?_
  refine dv 3 ?_
  (rw [e5i fX]; exact ⟨_, _, rfl, b5s (.cl rfl .nil)⟩)
 have fK : y0y n := a0o.1 (by simpa using hc2)
 have fS := fK.1
 have fB := w2w fS
 have fV := fS.2.2.2.2.2.1
 have fb := b8v fS
 have fM0 := c2a fK
 have fL := b9d fS
 have fG := fS.1.2.2.1
 refine dv 3 ?_
 refine rlM [13, 14, 15] [_, _, _] (y2y c n fb) rfl rfl rfl ?_
 refine x3x (id := 2) u6u q4q rfl (dc 7 (fun K K' => aS ?_ ?_))<;>intro hg4<;>try simp at hg4
 ·have fU : ¬ b2k n r g := by (rintro ⟨m1, m2, m3, m4, m5, m6, m7, m8⟩; (simp_all; done))
  refine dv 40 ?_
  (rw [b0p fK fU]; exact ⟨_, _, rfl, q1q (n := n) rfl rfl rfl (.cl rfl .nil)⟩)
 have fUp : n.up = true := hg4
 refine dc 4 (aS ?_ ?_)<;>intro h<;>try simp at h
 ·have fU : ¬ b2k n r g := by (rintro ⟨m1, m2, m3, m4, m5, m6, m7, m8⟩; omega)
  refine dv 36 ?_
  (rw [b0p fK fU]; exact ⟨_, _, rfl, q1q (n := n) rfl rfl rfl (.cl rfl .nil)⟩)
 refine dc 6 (aS ?_ ?_)<;>intro h<;>try simp at h
 ·have fU : ¬ b2k n r g := by (rintro ⟨m1, m2, m3, m4, m5, m6, m7, m8⟩; omega)
  refine dv 30 ?_
  (rw [b0p fK fU]; exact ⟨_, _, rfl, q1q (n := n) rfl rfl rfl (.cl rfl .nil)⟩)
 refine dv 3 ?_
 refine a0g (.int .i64 (n.g + 1)) rfl rfl rfl (a8v rfl rfl (by omega) (by omega)) ?_
 refine dv 0 ?_
 refine x0x rfl rfl rfl (y7y ..) (dc 3 (aS ?_ ?_))<;>intro h<;>try simp at h
 ·have fU : ¬ b2k n r g := by (rintro ⟨m1, m2, m3, m4, m5, m6, m7, m8⟩; omega)
  refine dv 22 ?_
  (rw [b0p fK fU]; exact ⟨_, _, rfl, q1q (n := n) rfl rfl rfl (.cl rfl .nil)⟩)
 refine dc 6 (aS ?_ ?_)<;>intro h<;>try simp at h
 ·have fU : ¬ b2k n r g := by (rintro ⟨m1, m2, m3, m4, m5, m6, m7, m8⟩; omega)
  refine dv 16 ?_
  (rw [b0p fK fU]; exact ⟨_, _, rfl, q1q (n := n) rfl rfl rfl (.cl rfl .nil)⟩)
 refine dv 1 ?_
 refine x0x rfl rfl rfl (b4u c n) (dc 4 (aS ?_ ?_))<;>intro h<;>try simp at h
 ·have fU : ¬ b2k n r g := by (rintro ⟨m1, m2, m3, m4, m5, m6, m7, m8⟩; omega)
  refine dv 10 ?_
  (rw [b0p fK fU]; exact ⟨_, _, rfl, q1q (n := n) rfl rfl rfl (.cl rfl .nil)⟩)
 refine dv 2 ?_
 refine x0x rfl rfl rfl (z9z ..) (dc 2 (aI ?_ ?_))<;>intro h<;>try simp at h
 ·have fU : ¬ b2k n r g := by (rintro ⟨m1, m2, m3, m4, m5, m6, m7, m8⟩; omega)
  refine dv 5 ?_
  (rw [b0p fK fU]; exact ⟨_, _, rfl, q1q (n := n) rfl rfl rfl (.cl rfl .nil)⟩)
 have fM : b2k n r g := ⟨fUp, by omega, by omega, by omega, by omega, by omega, by omega, by omega⟩
 obtain ⟨k, hk, hk3, hkn⟩ := f3r fS
 have hkl := fS.2.2.2.2.2.2.1
 obtain ⟨kn, hkv⟩ := gE n.known k
 have hKk : n.known.set n.id.toNat g = n.known.set k g := by rw [hkn]
 refine dv 13 fun K K' => ?_
 refine x5x (ι := Nat) (fun i γ1 => [(9, a0m c (a1u n g i)), (10, r8r c (b1e n g i)), (11, pI (i : Int))]) (fun i γ1 => [(13, ((0 + 1), .row 44 5 ((b9c g n.lanes i).map (r4r true)))), (3, ((γ1 3), .dead)), (4, ((γ1 4), .dead)), (5, ((γ1 5), .dead)), (6, ((γ1 6), .dead)), (7, ((γ1 7), .dead)), (8, ((γ1 8), .dead)), (9, ((γ1 9), .dead))]) (fun i => i ≤ n.lanes.length) (fun i => n.lanes.length - i) (r2r [2, 3, 6, 8] rfl) (a1p [0, 1, 2, 10, 11, 12, 14, 15, 16, 17, 18] rfl) 0 (by omega) [0, 0, 0, _, _, _, _, _, _, _] (Cov.cons' (t := 9) rfl (by rw [d2k]) (Cov.cons' (t := 10) rfl (by rw [d2l]) (x8x 11 rfl Cov.nil))) (HE.row rfl (by rw [d6x]) (HE.kill rfl (HE.kill rfl (HE.kill rfl (HE.kill rfl (HE.kill rfl (HE.kill rfl (HE.kill rfl HE.nil)))))))) rfl fun i γ1 hi => ?_
 refine dc 7 (fun K K' => aI ?_ ?_)<;>intro h<;>try simp at h
 ·obtain ⟨l, hp⟩ := gE n.lanes i
  have hkt := d0b fS g (i + 1)
  rw [c2d hp, List.length_append] at hkt
  have hot := d0c fS g (i + 1)
  rw [c2e hp, List.length_append] at hot
  have hlt2 : i < (b9c g n.lanes i).length := by rw [e0x _ _ (by omega)]; omega
  have hll := fL l (List.mem_of_getElem? hp)
  refine dv 10 fun K K' => ?_
  refine x0x rfl rfl rfl (b9k c l g hll) (dv 4 ?_)
  refine x3x (id := 3) a0y a9m rfl (dv 8 ?_)
  refine z0z (j := i) rfl rfl a8u rfl a0y rfl rfl hlt2 ?_
  refine v5v (el' := b5q g l) rfl rfl a0y rfl rfl rfl (e5g hp) rfl (q7q rfl) rfl rfl ?_
  refine dv 1 ?_
  refine y1y (id := 4) v6v rfl z4z rfl (dv 1 ?_)
  refine w6w (zs := (a1u n g i).map z1z) rfl rfl v6v rfl z4z rfl rfl rfl (z8z (fun _ => rfl) _) rfl (by (simp only [a0b, r5r, s1s, s3s, a0t, T56]; omega)) ?_
  refine dv 1 ?_
  refine a1n w5w (zs := (a1u n g i ++ b9a g l).map z1z) rfl rfl v6v rfl z4z rfl rfl rfl (z8z (fun _ => rfl) _) (a7s _ _ _) (by (simp only [a0b, r5r, s1s, s3s, a0t, T56]; omega)) (Le.ow_map _ (fun _ => rfl) (fun _ => rfl)) ?_
  refine dv 2 ?_
  refine y1y (id := 7) a0c rfl v9v rfl (dv 1 ?_)
  refine w6w (zs := (b1e n g i).map q5q) rfl rfl a0c rfl v9v rfl rfl rfl (z8z (fun _ => rfl) _) rfl (by (simp only [a0b, r5r, s1s, s3s, a0t, T141]; omega)) ?_
  refine dv 1 ?_
  refine a1n w5w (zs := (b1e n g i ++ c7f g l).map q5q) rfl rfl a0c rfl v9v rfl rfl rfl (z8z (fun _ => rfl) _) (a7s _ _ _) (by (simp only [a0b, r5r, s1s, s3s, a0t, T141]; omega)) (Le.ow_map _ (fun _ => rfl) (fun _ => rfl)) ?_
  refine dv 1 ?_
  refine d3y 9 rfl (.le rfl (Le.low_map (c := c) (l := a1u n g i ++ b9a g l) (f := z1z) fun _ => rfl) .nil) ?_
  refine d3y 10 rfl (.le rfl (Le.low_map (c := c) (l := b1e n g i ++ c7f g l) (f := q5q) fun _ => rfl) .nil) ?_
  refine dv 2 ?_
  refine u7u rfl rfl rfl (dv 1 ?_)
  exact ⟨i + 1, ⟨by omega, by omega⟩, [0, 0, 0, _, _, _, _, _, _, _], (Cov.cons' (t := 9) rfl (by rw [c2d hp]; rfl) (Cov.cons' (t := 10) rfl (by rw [c2e hp]; rfl) (Cov.cons' (t := 11) rfl (by rw [x9x (by omega) (by omega)]; rfl) Cov.nil))), x6x, (HE.row rfl (by rw [e0y hp]) (HE.kill rfl (HE.kill rfl (HE.kill rfl (HE.kill rfl (HE.kill rfl (HE.kill rfl (HE.kill rfl HE.nil)))))))), x4x, rfl⟩
 obtain rfl : i = n.lanes.length := by omega
 have hkt := d0b fS g n.lanes.length
 have hot := d0c fS g n.lanes.length
 have hkq : ∀ e ∈ u2u (a1u n g n.lanes.length), okE e = true := fun e he => e0z fS ((b0l _ _).1 he)
 have hqs := a3y (a1u n g n.lanes.length)
 refine dv 11 ?_
 refine z0z (j := k) rfl (by rw [← hk]; rfl) a0k rfl r3r rfl rfl (z2z hkv) ?_
 refine b3p (el' := g) rfl rfl r3r rfl rfl rfl hkv rfl (by omega) (.val rfl rfl .nil) rfl rfl ?_
 refine dv 1 ?_
 refine y1y (id := 10) v6v rfl z4z rfl (dv 4 ?_)
 refine x0x rfl rfl rfl (a1i c _ (by omega)) ?_
 refine dv 5 fun K K' => ?_
 refine x5x (ι := Nat) (fun j γ2 => [(15, pI (j : Int))]) (fun j γ2 => [(10, ((γ2 10), .row 56 7 ((((u2u (a1u n g n.lanes.length)).take j).filter (c2f (n.known.set k g))).map z1z))), (2, ((0 + 1), .box 65 [pI n.id, .pv (.bool n.up), pI n.inc, pI g, .ref 13 (0 + 1), .ref 10 (γ2 10), r8r true n.outs, pI n.led, pI n.version, .ref 14 (0 + 1), .ref 15 (0 + 1), pI n.round, pI n.low])), (11, ((γ2 11), .dead)), (12, ((γ2 12), .dead))]) (fun j => j ≤ (u2u (a1u n g n.lanes.length)).length) (fun j => (u2u (a1u n g n.lanes.length)).length - j) (r2r [3, 6, 8, 9, 10] rfl) (a1p [0, 1, 3, 4, 5, 6, 7, 8, 9, 13, 14, 15, 16, 17, 18] rfl) 0 (by omega) [0, 0, 0, 0, 0, 0, 0, 0, 0, 0, _, _, _] x6x (HE.row rfl (by rw [List.take_zero]; rfl) (HE.box rfl rfl (HE.kill rfl (HE.kill rfl HE.nil)))) rfl fun j γ2 hi => ?_
 refine dc 6 (fun K K' => aS ?_ ?_)<;>intro h<;>try simp at h
 ·obtain rfl : j = (u2u (a1u n g n.lanes.length)).length := by omega
  refine dv 3 ?_
  refine x0x rfl rfl rfl (a4c c _ (by omega)) ?_
  refine dv 3 fun K K' => ?_
  refine b2d 10 (xs' := (a3i n g).kept.map z1z) rfl (by simp only [a3i, hKk, c7g, List.take_length]) ?_
  refine b2d 13 (xs' := (a3i n g).lanes.map (r4r true)) rfl (by rw [e0w]; rfl) ?_
  refine b2d 15 (xs' := (a3i n g).known.map a6j) rfl (by simp only [a3i, hKk]) ?_
  refine v4v (b := b9t true (a3i n g).lanes) 2 4 rfl rfl rfl (.ref rfl (Le.ow_map _ (fun _ => rfl) (fun _ => rfl)) .nil) rfl rfl rfl rfl ?_
  refine v4v (b := a0m true (a3i n g).kept) 2 5 rfl rfl rfl (.ref rfl (Le.ow_map _ (fun _ => rfl) (fun _ => rfl)) .nil) rfl rfl rfl rfl ?_
  refine v4v (b := c3l true n.views) 2 9 rfl rfl rfl (.ref rfl (Le.ow_map _ (fun _ => rfl) (fun _ => rfl)) .nil) rfl rfl rfl rfl ?_
  refine v4v (b := a4u true (a3i n g).known) 2 10 rfl rfl rfl (.ref rfl (Le.ow_map _ (fun _ => rfl) (fun _ => rfl)) .nil) rfl rfl rfl rfl ?_
  refine dv 2 ?_
  refine x0x rfl rfl rfl (w0w true (a3i n g)) ?_
  refine dc 1 (aI ?_ ?_)<;>intro hc21<;>try simp at hc21
  ·have fX2 : ¬ y0y (a3i n g) := a0p (by simpa using hc21)
   refine dv 2 ?_
   refine rlM [16, 17, 18] [_, _, _] (y2y c n fb) rfl rfl rfl ?_
   refine dv 3 ?_
   (rw [d4u fK fM, c2h fX2]; exact ⟨_, _, rfl, q1q (n := n) rfl rfl rfl (.cl rfl .nil)⟩)
  have fK2 : y0y (a3i n g) := a0o.1 (by simpa using hc21)
  have fb2 := b8v fK2.1
  refine dv 3 ?_
  refine rlM [16, 17, 18] [_, _, _] (y2y true (a3i n g) fb2) rfl rfl rfl ?_
  refine dv 3 ?_
  (rw [d4u fK fM, c2g fK2]; exact ⟨_, _, rfl, q1q (n := a3i n g) rfl rfl rfl (.cl rfl .nil)⟩)
 obtain ⟨e, he⟩ := gE (u2u (a1u n g n.lanes.length)) j
 obtain ⟨k2, v, hk2, hv, hw⟩ := e5h (kn := n.known.set k g) (hkq e (List.mem_of_getElem? he)) (by rw [List.length_set]; exact hkl)
 have hfl : (((u2u (a1u n g n.lanes.length)).take j).filter (c2f (n.known.set k g))).length ≤ 1000000 := Nat.le_trans (List.length_filter_le _ _) (by rw [List.length_take]; omega)
 refine dv 16 fun K K' => ?_
 refine x0x rfl rfl rfl (a1m ..) ?_
 refine z0z (j := k2) rfl (by rw [← hk2]; rfl) a0k rfl r3r rfl rfl (z2z hv) ?_
 refine dc 2 (aS ?_ ?_)<;>intro h<;>try simp at h
 ·have hwf : ¬ c2f (n.known.set k g) e = true := by rw [hw]; simp; omega
  refine dv 3 ?_
  refine u7u rfl rfl rfl (dv 1 ?_)
  exact ⟨j + 1, ⟨by omega, by omega⟩, [0, 0, 0, 0, 0, 0, 0, 0, 0, 0, _, _, _], (Cov.cons' (t := 15) rfl (by rw [x9x (by omega) (by omega)]; rfl) Cov.nil), x6x, (HE.row rfl (by rw [r7r he]; rw [if_neg hwf, List.append_nil]) (HE.box rfl rfl (HE.kill rfl (HE.kill rfl HE.nil)))), x4x, rfl⟩
 have hwt : c2f (n.known.set k g) e = true := by rw [hw]; exact decide_eq_true (by omega)
 refine dv 7 ?_
 refine y5y (id := 11) v6v rfl z4z rfl rfl rfl rfl rfl rfl ?_
 refine y6y (zs := (((u2u (a1u n g n.lanes.length)).take j).filter (c2f (n.known.set k g)) ++ [e]).map z1z) rfl rfl v6v rfl z4z rfl rfl rfl rfl (by rfl) (u0u _ _ _) (by (simp only [a0b, r5r, s1s, s3s, a0t, T56]; omega)) ?_
 refine dv 4 ?_
 refine u7u rfl rfl rfl (dv 1 ?_)
 exact ⟨j + 1, ⟨by omega, by omega⟩, [0, 0, 0, 0, 0, 0, 0, 0, 0, 0, _, _, _], (Cov.cons' (t := 15) rfl (by rw [x9x (by omega) (by omega)]; rfl) Cov.nil), x6x, (HE.row rfl (by rw [r7r he]; rw [if_pos hwt]) (HE.box rfl rfl (HE.kill rfl (HE.kill rfl HE.nil)))), x4x, rfl⟩
end
section
def c0p (c : Bool) (vs : List Vi) : List (Value × AV) := vs.zipIdx.map fun p => (.int .i64 (p.2 : Int), .agg (a4b c p.1))
def c4f (n : Nat) : List Int := (List.range n).map fun (i : Nat) => (i : Int)
variable {c : Bool} {vs : List Vi} {i : Nat} {v : Vi}
theorem f1v (h : vs[i]? = some v) : (c0p c vs)[i]? = some (.int .i64 (i : Int), .agg (a4b c v)) := by
 rw [c0p, List.getElem?_map, List.getElem?_zipIdx, h]; simp
theorem d0y (c : Bool) (vs : List Vi) : (c0p c vs).map (·.1) = (c4f vs.length).map fun n => Value.int .i64 n := by
 apply List.ext_getElem?
 intro i
 simp only [c0p, c4f, List.getElem?_map, List.getElem?_zipIdx, List.getElem?_range]
 by_cases h : i < vs.length
 ·simp [h]
 ·rw [List.getElem?_eq_none (by omega : vs.length ≤ i)]; simp [h]
theorem e6l (h : i < n) : a6o (c4f n) (i : Int) = some i := by
 obtain ⟨j, hj⟩ := c9a (k := (i : Int)) (ks := c4f n) (List.mem_map.2 ⟨i, List.mem_range.2 h, rfl⟩)
 have := b5j hj
 simp only [c4f, List.getElem?_map] at this
 cases hr : (List.range n)[j]? with
 | none => rw [hr] at this; cases this
 | some k =>
  rw [hr] at this
  obtain ⟨q1, q2⟩ := List.getElem?_eq_some_iff.1 hr
  simp only [List.getElem_range] at q2
  simp only [Option.map_some, Option.some.injEq] at this
  have : j = i := by omega
  rw [hj, this]
theorem e6m (n : Nat) : a6o (c4f n) (n : Int) = none := b2c.2 fun h => by
 obtain ⟨k, h1, h2⟩ := List.mem_map.1 h
 rw [List.mem_range] at h1
 omega
theorem e3i (c : Bool) (vs : List Vi) (v : Vi) : c0p c (vs ++ [v]) = c0p c vs ++ [(.int .i64 (vs.length : Int), .agg (a4b c v))] := by
 simp [c0p, List.zipIdx_append]
theorem e3j {tt : TT} {et : TypeId} (h : vs[i]? = some v) : (∃ j kv, a6o (c4f vs.length) (i : Int) = some j ∧ (c0p c vs)[j]? = some (kv, .agg (a4b c v))) ∨ (a6o (c4f vs.length) (i : Int) = none ∧ ∃ S, tt et = some S ∧ AV.agg (a4b c v) = b8n S) :=
 .inl ⟨i, _, e6l (List.getElem?_eq_some_iff.1 h).1, f1v h⟩
theorem a8b (c : Bool) (vs : List Vi) : ∀ p ∈ c0p c vs, p.2.flatA = true := fun p hp => by
 obtain ⟨q, _, rfl⟩ := List.mem_map.1 hp; rfl
end
section
theorem e6n {α : Type} {l : List α} {i : Nat} {a : α} (h : l[i]? = some a) : l.set i a = l := by
 obtain ⟨h1, rfl⟩ := List.getElem?_eq_some_iff.1 h
 exact List.set_getElem_self h1
end
section
theorem c3b (c : Bool) (n : Nd) (f inc ver g : Int) (es : List Ev) : a0j Tryz.prog 70 [.agg (u1u c n), .pv (.int .i64 f), .pv (.int .i64 inc), .pv (.int .i64 ver), .pv (.int .i64 g), a0m c es] (.agg (u1u true (a3n n f inc ver g es))) := by
 refine pX Tryz.f70 [.agg (u1u true (a3n n f inc ver g es))] 12 ?_
 refine dv 1 ?_
 refine y3y (id := 0) rfl rfl rfl (x3x (id := 1) u6u q4q rfl (dv 3 fun K K' => ?_))
 refine x0x rfl rfl rfl (w0w c n) (dc 1 (aI ?_ ?_))<;>intro hc2<;>try simp at hc2
 ·have fX : ¬ y0y n := a0p (by simpa using hc2)
  refine dv 1 ?_
  refine rlB u6u q4q ?_
  refine dv 2 ?_
  (rw [f3t fX]; exact ⟨_, _, rfl, e1r⟩)
 have fK : y0y n := a0o.1 (by simpa using hc2)
 have fS := fK.1
 have fB := w2w fS
 have fV := fS.2.2.2.2.2.1
 have fQ := fS.2.2.2.2.2.2.1
 have fb := b8v fS
 refine dv 3 ?_
 refine rlM [6, 7, 8] [_, _, _] (y2y c n fb) rfl rfl rfl ?_
 refine x3x (id := 2) u6u q4q rfl (dc 7 (fun K K' => aS ?_ ?_))<;>intro hg4<;>try simp at hg4
 ·have fU : ¬ a9v n f inc ver g es := by (rintro ⟨m1, m2, m3, m4, m5, m6, m7, m8, m9⟩; (simp_all; done))
  refine dv 37 ?_
  (rw [b7p fK fU]; exact ⟨_, _, rfl, b5r (n := n) rfl rfl rfl⟩)
 have fUp : n.up = true := hg4
 refine dv 1 ?_
 refine x0x rfl rfl rfl (y7y ..) (dc 3 (aS ?_ ?_))<;>intro h<;>try simp at h
 ·have fU : ¬ a9v n f inc ver g es := by (rintro ⟨m1, m2, m3, m4, m5, m6, m7, m8, m9⟩; omega)
  refine dv 32 ?_
  (rw [b7p fK fU]; exact ⟨_, _, rfl, b5r (n := n) rfl rfl rfl⟩)
 refine dc 6 (aS ?_ ?_)<;>intro hg6<;>try simp at hg6
 ·have fU : ¬ a9v n f inc ver g es := by (rintro ⟨m1, m2, m3, m4, m5, m6, m7, m8, m9⟩; omega)
  refine dv 26 ?_
  (rw [b7p fK fU]; exact ⟨_, _, rfl, b5r (n := n) rfl rfl rfl⟩)
 have f4 : ¬ f = n.id := hg6
 refine dv 3 ?_
 refine rlB a0d a9n ?_
 refine dv 0 ?_
 refine x0x rfl rfl rfl (b1i c ⟨inc, ver, es⟩) ?_
 refine dc 3 (aS ?_ ?_)<;>intro hg7<;>try simp at hg7
 ·have fvi : ¬ d4m ⟨inc, ver, es⟩ := a0p (by simpa using hg7)
  have fU : ¬ a9v n f inc ver g es := by (rintro ⟨m1, m2, m3, m4, m5, m6, m7, m8, m9⟩; exact fvi ⟨⟨by show 0 ≤ inc; omega, m5.2⟩, m6, m8⟩)
  refine dv 18 ?_
  (rw [b7p fK fU]; exact ⟨_, _, rfl, b5r (n := n) rfl rfl rfl⟩)
 have fvi : d4m ⟨inc, ver, es⟩ := a0o.1 (by simpa using hg7)
 have fv1 := fvi.1
 have fv2 := fvi.2.1
 have fv3 : a6y okE a2g es 100 = true := fvi.2.2
 dsimp only at fv1 fv2
 refine dc 4 (aS ?_ ?_)<;>intro h<;>try simp at h
 ·have fU : ¬ a9v n f inc ver g es := by (rintro ⟨m1, m2, m3, m4, m5, m6, m7, m8, m9⟩; omega)
  refine dv 14 ?_
  (rw [b7p fK fU]; exact ⟨_, _, rfl, b5r (n := n) rfl rfl rfl⟩)
 refine dv 1 ?_
 refine x0x rfl rfl rfl (y7y ..) (dc 3 (aS ?_ ?_))<;>intro h<;>try simp at h
 ·have fU : ¬ a9v n f inc ver g es := by (rintro ⟨m1, m2, m3, m4, m5, m6, m7, m8, m9⟩; omega)
  refine dv 9 ?_
  (rw [b7p fK fU]; exact ⟨_, _, rfl, b5r (n := n) rfl rfl rfl⟩)
 refine dv 2 ?_
 refine x0x rfl rfl rfl (z9z ..) (dc 2 (aI ?_ ?_))<;>intro h<;>try simp at h
 ·have fU : ¬ a9v n f inc ver g es := by (rintro ⟨m1, m2, m3, m4, m5, m6, m7, m8, m9⟩; omega)
  refine dv 4 ?_
  (rw [b7p fK fU]; exact ⟨_, _, rfl, b5r (n := n) rfl rfl rfl⟩)
 refine dv 5 fun K K' => ?_
 refine u9u 5 rfl fun hlen => ?_
 refine x5x (ι := Nat) (fun i γ1 => [(14, pI (i : Int))]) (fun i γ1 => []) (fun i => i ≤ es.length ∧ c6w es (fun _ e => s7s e.to = n.id ∧ (e.from' = -1 ∨ s7s e.from' = f)) i) (fun i => es.length - i) (r2r [1, 2, 3, 4, 5, 6, 12, 13] rfl) (a1p [0, 1, 2, 3, 4, 5, 6, 7, 8, 9, 10, 11] rfl) 0 ⟨by omega, a0v⟩ [] x6x x4x rfl fun i γ1 hi => ?_
 obtain ⟨k1, k2⟩ := hi
 refine dc 6 (fun K K' => aI ?_ ?_)<;>intro h<;>try simp at h
 ·obtain ⟨e, he⟩ := gE es i
  have heo : b6f e := of_decide_eq_true ((p4p fv3).2 e (List.mem_of_getElem? he))
  have heb := heo.2.2.1
  refine dv 9 fun K K' => ?_
  refine x0x rfl rfl rfl (a1m ..) (dc 4 (aS ?_ ?_))<;>intro hg15<;>try simp at hg15
  ·have fE : ¬ (s7s e.to = n.id ∧ (e.from' = -1 ∨ s7s e.from' = f)) := fun q => (by have := q.1; omega)
   refine dv 17 ?_
   have fU : ¬ a9v n f inc ver g es := fun q => fE (q.2.2.2.2.2.2.2.2 e (List.mem_of_getElem? he))
   refine dv 4 ?_
   (rw [b7p fK fU]; exact ⟨_, _, rfl, b5r (n := n) rfl rfl rfl⟩)
  have e1 : s7s e.to = n.id := hg15
  refine dc 7 (aS ?_ ?_)<;>intro h<;>try simp at h
  ·have hE : s7s e.to = n.id ∧ (e.from' = -1 ∨ s7s e.from' = f) := ⟨e1, .inl (by omega)⟩
   refine dv 13 ?_
   refine u7u rfl rfl rfl (dv 1 ?_)
   exact ⟨i + 1, ⟨⟨by omega, r0r k2 he hE⟩, by omega⟩, [], (Cov.cons' (t := 14) rfl (by rw [x9x (by omega) (by omega)]; rfl) Cov.nil), x6x, x4x, x4x, rfl⟩
  refine dv 5 ?_
  refine x0x rfl rfl rfl (a1m ..) (dc 4 (aS ?_ ?_))<;>intro hc17<;>try simp at hc17
  ·have hE : s7s e.to = n.id ∧ (e.from' = -1 ∨ s7s e.from' = f) := ⟨e1, .inr hc17⟩
   refine dv 3 ?_
   refine u7u rfl rfl rfl (dv 1 ?_)
   exact ⟨i + 1, ⟨⟨by omega, r0r k2 he hE⟩, by omega⟩, [], (Cov.cons' (t := 14) rfl (by rw [x9x (by omega) (by omega)]; rfl) Cov.nil), x6x, x4x, x4x, rfl⟩
  have fE : ¬ (s7s e.to = n.id ∧ (e.from' = -1 ∨ s7s e.from' = f)) := by (rintro ⟨q1, q2 | q2⟩ <;> omega)
  have fU : ¬ a9v n f inc ver g es := fun q => fE (q.2.2.2.2.2.2.2.2 e (List.mem_of_getElem? he))
  refine dv 4 ?_
  (rw [b7p fK fU]; exact ⟨_, _, rfl, b5r (n := n) rfl rfl rfl⟩)
 have hall := a2i k2 (by omega)
 have fH : a9v n f inc ver g es := ⟨fUp, by omega, by omega, f4, by omega, by omega, by omega, fv3, fun e he => by obtain ⟨i, hi⟩ := List.getElem?_of_mem he; exact hall i e hi⟩
 obtain ⟨k, rfl⟩ : ∃ k : Nat, f = (k : Int) := ⟨f.toNat, by have := fH.2.2.1; omega⟩
 have hk3 : k < 3 := by have := fH.2.2.1; omega
 obtain ⟨kn, hkn⟩ := gE n.known k
 obtain ⟨v, hv⟩ := gE n.views k
 have hes : es.length ≤ 100 := by have := (p4p fH.2.2.2.2.2.2.2.1).1; omega
 obtain ⟨M, hM⟩ : ∃ M, M = b2m n k inc ver g es := ⟨_, rfl⟩
 have hv9 : n.version ≤ 9998 := by have := fH.2.1; omega
 have hv0 := fS.1.2.2.2.2.1.1
 refine dv 1 ?_
 refine q8q (ι := Unit) (fun _i γ2 => []) (fun _i γ2 => [(8, ((0 + 1), .row 3 1 ((n.known.set k (max kn g)).map a6j)))]) (fun _i => True) (r2r [1, 2, 3, 5, 6, 12, 13] rfl) (a1p [0, 1, 2, 3, 4, 5, 6, 7, 9, 10, 11] rfl) ?_ fun _i γ2 hi => ?_
 ·refine dv 5 ?_
  refine z0z (j := k) rfl rfl a0k rfl r3r rfl rfl (z2z hkn) ?_
  refine dc 2 (aS ?_ ?_)<;>intro h<;>try simp at h
  ·have hmx : max kn g = kn := by omega
   refine dv 1 ?_
   exact ⟨(), trivial, [], x6x, x6x, (HE.row rfl (by rw [hmx, e6n hkn]) HE.nil), x4x, rfl⟩
  have hmx : max kn g = g := by omega
  refine dv 5 ?_
  refine z0z (j := k) rfl rfl a0k rfl r3r rfl rfl (z2z hkn) ?_
  refine b3p (el' := g) rfl rfl r3r rfl rfl rfl hkn rfl (by omega) (.val rfl rfl .nil) rfl rfl ?_
  exact ⟨(), trivial, [], x6x, x6x, (HE.row rfl (by (rw [hmx]; done)) HE.nil), x4x, rfl⟩
 ·try dsimp only [b2t, b2u]
  refine dv 6 ?_
  refine x3x (id := 3) a0d a9n rfl (dv 1 ?_)
  refine q8q (ι := Unit) (fun _i γ3 => []) (fun _i γ3 => [(2, ((0 + 1), .box 65 [pI M.id, .pv (.bool M.up), pI M.inc, pI M.g, .ref 6 (0 + 1), a0m true M.kept, r8r true M.outs, pI M.led, pI M.version, .ref 7 (0 + 1), .ref 8 (0 + 1), pI M.round, pI M.low])), (6, ((0 + 1), .row 44 5 ((M.lanes).map (r4r true)))), (7, ((0 + 1), .row 190 3 ((M.views).map (a4b true)))), (8, ((0 + 1), .row 3 1 (M.known.map a6j))), (4, ((γ3 4), .dead)), (5, ((γ3 5), .dead))]) (fun _i => True) (r2r [6, 12, 13] rfl) (a1p [0, 1, 3, 9, 10, 11] rfl) ?_ fun _i γ3 hi => ?_
  ·refine dc 6 (aS ?_ ?_)<;>intro h<;>try simp at h
   ·refine dv 11 ?_
    have hL : c7k v inc ver := .inl (by omega)
    refine dv 6 ?_
    refine x0x rfl rfl rfl (b1j c v.events es n.g) (dc 7 (fun K K' => aS ?_ ?_))<;>intro h<;>try simp at h
    ·have hlow : n.low = M.low := by rw [hM, a1v hv hkn hL]; show _ = chg n.g v.events (chg n.g es n.low v.events) es; rw [c0o n.g v.events es (m := n.low) (by have := fS.1.2.2.2.2.2.2; omega)]; omega
     refine dv 7 ?_
     refine y1y (id := 4) v6v rfl z4z rfl (dv 1 ?_)
     refine a1n w5w (zs := es.map z1z) rfl rfl v6v rfl z4z rfl rfl rfl (z8z (fun _ => rfl) _) rfl (by simp only [a0b, T56]; omega) (Le.ow_map _ (fun _ => rfl) (fun _ => rfl)) ?_
     refine rlB a0d a9n ?_
     refine z0z (j := k) rfl rfl b1m rfl a0d rfl rfl (z2z hv) ?_
     refine v5v (el' := ⟨inc, ver, es⟩) rfl rfl a0d rfl rfl rfl hv rfl (q7q rfl) rfl rfl ?_
     refine dv 0 ?_
     exact ⟨(), trivial, [0, 0, 0, 0, _, _], x6x, x6x, (HE.box rfl (by rw [← hlow]; (rw [hM, a1v hv hkn hL] <;> rfl)) (HE.row rfl (by (rw [hM, a1v hv hkn hL] <;> rfl)) (HE.row rfl (by (rw [hM, a1v hv hkn hL] <;> rfl)) (HE.row rfl (by (rw [hM, a1v hv hkn hL] <;> rfl)) (HE.kill rfl (HE.kill rfl HE.nil)))))), x4x, rfl⟩
    have hlow : chg n.g v.events (chg n.g es 41 v.events) es = M.low := by rw [hM, a1v hv hkn hL]; show _ = chg n.g v.events (chg n.g es n.low v.events) es; rw [c0o n.g v.events es (m := n.low) (by have := fS.1.2.2.2.2.2.2; omega)]; omega
    refine dv 10 ?_
    refine y1y (id := 4) v6v rfl z4z rfl (dv 1 ?_)
    refine a1n w5w (zs := es.map z1z) rfl rfl v6v rfl z4z rfl rfl rfl (z8z (fun _ => rfl) _) rfl (by simp only [a0b, T56]; omega) (Le.ow_map _ (fun _ => rfl) (fun _ => rfl)) ?_
    refine rlB a0d a9n ?_
    refine z0z (j := k) rfl rfl b1m rfl a0d rfl rfl (z2z hv) ?_
    refine v5v (el' := ⟨inc, ver, es⟩) rfl rfl a0d rfl rfl rfl hv rfl (q7q rfl) rfl rfl ?_
    refine dv 0 ?_
    exact ⟨(), trivial, [0, 0, 0, 0, _, _], x6x, x6x, (HE.box rfl (by rw [← hlow]; (rw [hM, a1v hv hkn hL] <;> rfl)) (HE.row rfl (by (rw [hM, a1v hv hkn hL] <;> rfl)) (HE.row rfl (by (rw [hM, a1v hv hkn hL] <;> rfl)) (HE.row rfl (by (rw [hM, a1v hv hkn hL] <;> rfl)) (HE.kill rfl (HE.kill rfl HE.nil)))))), x4x, rfl⟩
   refine dc 5 (aS ?_ ?_)<;>intro h<;>try simp at h
   ·refine dv 6 ?_
    have hL : ¬ c7k v inc ver := by rintro (q | ⟨q1, q2⟩) <;> omega
    have hlow : n.low = M.low := by rw [hM, a8y hv hkn hL]
    refine dv 1 ?_
    exact ⟨(), trivial, [0, 0, 0, 0, _, _], x6x, x6x, (HE.box rfl (by rw [← hlow]; (rw [hM, a8y hv hkn hL] <;> rfl)) (HE.row rfl (by (rw [hM, a8y hv hkn hL] <;> rfl)) (HE.row rfl (by (rw [hM, a8y hv hkn hL] <;> rfl)) (HE.row rfl (by (rw [hM, a8y hv hkn hL] <;> rfl)) (HE.kill rfl (HE.kill rfl HE.nil)))))), x4x, rfl⟩
   refine dc 6 (aS ?_ ?_)<;>intro h<;>try simp at h
   ·have hL : ¬ c7k v inc ver := by rintro (q | ⟨q1, q2⟩) <;> omega
    have hlow : n.low = M.low := by rw [hM, a8y hv hkn hL]
    refine dv 1 ?_
    exact ⟨(), trivial, [0, 0, 0, 0, _, _], x6x, x6x, (HE.box rfl (by rw [← hlow]; (rw [hM, a8y hv hkn hL] <;> rfl)) (HE.row rfl (by (rw [hM, a8y hv hkn hL] <;> rfl)) (HE.row rfl (by (rw [hM, a8y hv hkn hL] <;> rfl)) (HE.row rfl (by (rw [hM, a8y hv hkn hL] <;> rfl)) (HE.kill rfl (HE.kill rfl HE.nil)))))), x4x, rfl⟩
   have hL : c7k v inc ver := .inr ⟨by omega, by omega⟩
   refine dv 6 ?_
   refine x0x rfl rfl rfl (b1j c v.events es n.g) (dc 7 (fun K K' => aS ?_ ?_))<;>intro h<;>try simp at h
   ·have hlow : n.low = M.low := by rw [hM, a1v hv hkn hL]; show _ = chg n.g v.events (chg n.g es n.low v.events) es; rw [c0o n.g v.events es (m := n.low) (by have := fS.1.2.2.2.2.2.2; omega)]; omega
    refine dv 7 ?_
    refine y1y (id := 4) v6v rfl z4z rfl (dv 1 ?_)
    refine a1n w5w (zs := es.map z1z) rfl rfl v6v rfl z4z rfl rfl rfl (z8z (fun _ => rfl) _) rfl (by simp only [a0b, T56]; omega) (Le.ow_map _ (fun _ => rfl) (fun _ => rfl)) ?_
    refine rlB a0d a9n ?_
    refine z0z (j := k) rfl rfl b1m rfl a0d rfl rfl (z2z hv) ?_
    refine v5v (el' := ⟨inc, ver, es⟩) rfl rfl a0d rfl rfl rfl hv rfl (q7q rfl) rfl rfl ?_
    refine dv 0 ?_
    exact ⟨(), trivial, [0, 0, 0, 0, _, _], x6x, x6x, (HE.box rfl (by rw [← hlow]; (rw [hM, a1v hv hkn hL] <;> rfl)) (HE.row rfl (by (rw [hM, a1v hv hkn hL] <;> rfl)) (HE.row rfl (by (rw [hM, a1v hv hkn hL] <;> rfl)) (HE.row rfl (by (rw [hM, a1v hv hkn hL] <;> rfl)) (HE.kill rfl (HE.kill rfl HE.nil)))))), x4x, rfl⟩
   have hlow : chg n.g v.events (chg n.g es 41 v.events) es = M.low := by rw [hM, a1v hv hkn hL]; show _ = chg n.g v.events (chg n.g es n.low v.events) es; rw [c0o n.g v.events es (m := n.low) (by have := fS.1.2.2.2.2.2.2; omega)]; omega
   refine dv 10 ?_
   refine y1y (id := 4) v6v rfl z4z rfl (dv 1 ?_)
   refine a1n w5w (zs := es.map z1z) rfl rfl v6v rfl z4z rfl rfl rfl (z8z (fun _ => rfl) _) rfl (by simp only [a0b, T56]; omega) (Le.ow_map _ (fun _ => rfl) (fun _ => rfl)) ?_
   refine rlB a0d a9n ?_
   refine z0z (j := k) rfl rfl b1m rfl a0d rfl rfl (z2z hv) ?_
   refine v5v (el' := ⟨inc, ver, es⟩) rfl rfl a0d rfl rfl rfl hv rfl (q7q rfl) rfl rfl ?_
   refine dv 0 ?_
   exact ⟨(), trivial, [0, 0, 0, 0, _, _], x6x, x6x, (HE.box rfl (by rw [← hlow]; (rw [hM, a1v hv hkn hL] <;> rfl)) (HE.row rfl (by (rw [hM, a1v hv hkn hL] <;> rfl)) (HE.row rfl (by (rw [hM, a1v hv hkn hL] <;> rfl)) (HE.row rfl (by (rw [hM, a1v hv hkn hL] <;> rfl)) (HE.kill rfl (HE.kill rfl HE.nil)))))), x4x, rfl⟩
  ·try dsimp only [b2t, b2u]
   obtain ⟨w1, w2, w3⟩ := d4y n k inc ver g es
   rw [← hM] at w1 w2 w3
   have hwM : wk M := by rw [hM]; exact e5l (e1a fS) hes
   have hpcM : M.lanes.length = (w7w M.id 4).length := by rw [w1, w3]; exact fS.2.2.2.2.1
   have hwA : wk (nl M (q3q M M.lanes)) := c7j _ (Nat.le_refl _) hwM
   have hLA : (q3q M M.lanes).length ≤ 4 := hwA.1
   refine dv 3 ?_
   refine rlM [6, 7, 8] [_, _, _] (b3e M hwM) rfl rfl rfl ?_
   refine rlM [6, 7, 8] [_, _, _] (b1k c n (nl M (q3q M M.lanes)) (e1a fS) hwA w1.symm ⟨by omega, by omega⟩) rfl rfl rfl ?_
   refine dv 2 fun K K' => ?_
   refine v4v (b := b9t true (a8x n M).lanes) 2 4 rfl rfl rfl (.ref rfl (Le.ow_map _ (fun _ => rfl) (fun _ => rfl)) .nil) rfl rfl rfl rfl ?_
   refine v4v (b := c3l true (a8x n M).views) 2 9 rfl rfl rfl (.ref rfl (Le.ow_map _ (fun _ => rfl) (fun _ => rfl)) .nil) rfl rfl rfl rfl ?_
   refine v4v (b := a4u true (a8x n M).known) 2 10 rfl rfl rfl (.ref rfl (Le.ow_map _ (fun _ => rfl) (fun _ => rfl)) .nil) rfl rfl rfl rfl ?_
   refine dv 2 ?_
   refine x0x rfl rfl rfl (w0w true (a8x n M)) ?_
   refine dc 1 (aI ?_ ?_)<;>intro hc31<;>try simp at hc31
   ·have fX2 : ¬ y0y (a8x n M) := a0p (by simpa using hc31)
    refine dv 2 ?_
    refine rlM [9, 10, 11] [_, _, _] (y2y c n fb) rfl rfl rfl ?_
    refine dv 2 ?_
    (rw [e7x fK fH, ← hM, c2h fX2]; exact ⟨_, _, rfl, b5r (n := n) rfl rfl rfl⟩)
   have fK2 : y0y (a8x n M) := a0o.1 (by simpa using hc31)
   have fb2 := b8v fK2.1
   refine dv 3 ?_
   refine rlM [9, 10, 11] [_, _, _] (y2y true (a8x n M) fb2) rfl rfl rfl ?_
   refine dv 2 ?_
   (rw [e7x fK fH, ← hM, c2g fK2]; exact ⟨_, _, rfl, b5r (n := a8x n M) rfl rfl rfl⟩)
end
section
theorem a8c (c : Bool) (n : Nd) (w : Wo) : a0j Tryz.prog 74 [.agg (u1u c n), .agg (u3u c w)] (.tup [.agg (u1u true (w3w n w).1), v7v true (w3w n w).2]) := by
 refine pX Tryz.f74 [.agg (u1u true (w3w n w).1), v7v true (w3w n w).2] 12 ?_
 refine dv 1 ?_
 refine y3y (id := 0) rfl rfl rfl (y3y (id := 1) rfl rfl rfl (x3x (id := 2) u6u q4q rfl (dv 2 ?_)))
 refine y1y (id := 3) p5p rfl v2v rfl (dv 4 fun K K' => ?_)
 refine x0x rfl rfl rfl (w0w ..) (dc 1 (aI ?_ ?_))<;>intro hc2<;>try simp at hc2
 ·have fX : ¬ y0y n := a0p (by simpa using hc2)
  refine dv 1 ?_
  refine rlB u6u q4q ?_
  refine dv 4 ?_
  (rw [f3z fX]; exact ⟨_, _, rfl, b5s (a2c (l := ([] : List Wo)) rfl .nil)⟩)
 have fK : y0y n := a0o.1 (by simpa using hc2)
 have fS := fK.1
 have fb := b8v fS
 refine dc 7 (fun K K' => aS ?_ ?_)<;>intro hg4<;>try simp at hg4
 ·have fU : ¬ a9x n w := fun h => by have := h.1; simp_all
  refine dv 18 ?_
  try have fU : ¬ a9x n w := fun h => by have := h.2.2.1; have := h.2.2.2; omega
  refine dv 2 ?_
  refine rlM [9, 10, 11] [_, _, _] (y2y c n fb) rfl rfl rfl ?_
  refine dv 4 ?_
  (rw [d5c fK fU]; exact ⟨_, _, rfl, q1q rfl rfl rfl (a2c (l := ([] : List Wo)) rfl .nil)⟩)
 have fUp : n.up = true := hg4
 refine dv 1 ?_
 refine x0x rfl rfl rfl (b0x ..) (dc 3 (aS ?_ ?_))<;>intro hg5<;>try simp at hg5
 ·try have fU : ¬ a9x n w := fun h => absurd h.2.1 hg5
  refine dv 13 ?_
  try have fU : ¬ a9x n w := fun h => by have := h.2.2.1; have := h.2.2.2; omega
  refine dv 2 ?_
  refine rlM [9, 10, 11] [_, _, _] (y2y c n fb) rfl rfl rfl ?_
  refine dv 4 ?_
  (rw [d5c fK fU]; exact ⟨_, _, rfl, q1q rfl rfl rfl (a2c (l := ([] : List Wo)) rfl .nil)⟩)
 have fW : a1r w := hg5
 refine dc 7 (aS ?_ ?_)<;>intro j<;>try simp at j
 ·try have fU : ¬ a9x n w := fun h => by have := h.2.2.1; omega
  refine dv 6 ?_
  try have fU : ¬ a9x n w := fun h => by have := h.2.2.1; have := h.2.2.2; omega
  refine dv 2 ?_
  refine rlM [9, 10, 11] [_, _, _] (y2y c n fb) rfl rfl rfl ?_
  refine dv 4 ?_
  (rw [d5c fK fU]; exact ⟨_, _, rfl, q1q rfl rfl rfl (a2c (l := ([] : List Wo)) rfl .nil)⟩)
 refine dc 6 (aI ?_ ?_)<;>intro j<;>try simp at j
 ·try have fU : ¬ a9x n w := fun h => by have := h.2.2.1; have := h.2.2.2; omega
  refine dv 2 ?_
  refine rlM [9, 10, 11] [_, _, _] (y2y c n fb) rfl rfl rfl ?_
  refine dv 4 ?_
  (rw [d5c fK fU]; exact ⟨_, _, rfl, q1q rfl rfl rfl (a2c (l := ([] : List Wo)) rfl .nil)⟩)
 have fM : a9x n w := ⟨fUp, fW, by omega, by omega⟩
 refine dc 9 (fun K K' => aI ?_ ?_)<;>intro hc9<;>try simp at hc9
 ·have k1 : w.kind = 1 := hc9
  refine dv 12 ?_
  refine x0x rfl rfl rfl (c3b c n w.from' w.inc w.version w.g w.events) ?_
  refine dv 4 ?_
  (rw [b7r fK fM, f0v k1]; exact ⟨_, _, rfl, d0v (a2c (l := ([] : List Wo)) rfl .nil)⟩)
 have n1 : ¬ w.kind = 1 := hc9
 refine dc 3 (aI ?_ ?_)<;>intro hc10<;>try simp at hc10
 ·have k2 : w.kind = 2 := hc10
  refine dv 4 ?_
  refine x0x rfl rfl rfl (b0a ..) (dv 4 ?_)
  refine x3x (id := 4) u6u q4q rfl (x3x (id := 5) v2v a6n rfl (dc 5 (aI ?_ ?_)))<;>intro hc11<;>try simp at hc11
  ·have hr : (u5u n w.round).2.2 = true := hc11
   refine dv 3 ?_
   refine y5y (id := 6) p5p rfl v2v rfl rfl rfl rfl rfl rfl (dv 3 ?_)
   (rw [b7r fK fM, e5q k2 hr]; exact ⟨_, _, rfl, d0v (a2c (l := [(u5u n w.round).2.1]) rfl .nil)⟩)
  have hr : ¬ (u5u n w.round).2.2 = true := by simpa using hc11
  have hE : w3w n w = (n, []) := by rw [b7r fK fM, e5r k2 hr]
  refine dv 3 ?_
  refine rlM [9, 10, 11] [_, _, _] (y2y c n fb) rfl rfl rfl ?_
  refine dv 4 ?_
  (rw [hE]; exact ⟨_, _, rfl, q1q rfl rfl rfl (a2c (l := ([] : List Wo)) rfl .nil)⟩)
 have n2 : ¬ w.kind = 2 := hc10
 refine dc 3 (aS ?_ ?_)<;>intro hc12<;>try simp at hc12
 ·have n4 : ¬ w.kind = 4 := hc12
  refine dc 3 (aS ?_ ?_)<;>intro hc16<;>try simp at hc16
  ·have n6 : ¬ w.kind = 6 := hc16
   have hE : w3w n w = (n, []) := by rw [b7r fK fM, f0w n1 n2 n4 n6]
   refine dv 3 ?_
   refine rlM [9, 10, 11] [_, _, _] (y2y c n fb) rfl rfl rfl ?_
   refine dv 4 ?_
   (rw [hE]; exact ⟨_, _, rfl, q1q rfl rfl rfl (a2c (l := ([] : List Wo)) rfl .nil)⟩)
  have k6 : w.kind = 6 := hc16
  refine dc 6 (aS ?_ ?_)<;>intro hc17<;>try simp at hc17
  ·have h6 : ¬ w.inc = n.inc := hc17
   have hE : w3w n w = (n, []) := by rw [b7r fK fM, e5u k6 h6]
   refine dv 3 ?_
   refine rlM [9, 10, 11] [_, _, _] (y2y c n fb) rfl rfl rfl ?_
   refine dv 4 ?_
   (rw [hE]; exact ⟨_, _, rfl, q1q rfl rfl rfl (a2c (l := ([] : List Wo)) rfl .nil)⟩)
  have h6 : w.inc = n.inc := hc17
  refine dv 6 ?_
  refine x0x rfl rfl rfl (b0c ..) (dv 3 ?_)
  refine x3x (id := 8) u6u q4q rfl (dv 8 ?_)
  (rw [b7r fK fM, e5t k6 h6]; exact ⟨_, _, rfl, d0v (a2c (l := ([] : List Wo)) rfl .nil)⟩)
 have k4 : w.kind = 4 := hc12
 refine dc 7 (aS ?_ ?_)<;>intro j<;>try simp at j
 ·refine dv 4 ?_
  have h4 : ¬ (w.round = n.round ∧ 0 < w.round) := by omega
  have hE : w3w n w = (n, []) := by rw [b7r fK fM, d5e k4 h4]
  refine dv 3 ?_
  refine rlM [9, 10, 11] [_, _, _] (y2y c n fb) rfl rfl rfl ?_
  refine dv 4 ?_
  (rw [hE]; exact ⟨_, _, rfl, q1q rfl rfl rfl (a2c (l := ([] : List Wo)) rfl .nil)⟩)
 refine dc 4 (aS ?_ ?_)<;>intro j<;>try simp at j
 ·have h4 : ¬ (w.round = n.round ∧ 0 < w.round) := by omega
  have hE : w3w n w = (n, []) := by rw [b7r fK fM, d5e k4 h4]
  refine dv 3 ?_
  refine rlM [9, 10, 11] [_, _, _] (y2y c n fb) rfl rfl rfl ?_
  refine dv 4 ?_
  (rw [hE]; exact ⟨_, _, rfl, q1q rfl rfl rfl (a2c (l := ([] : List Wo)) rfl .nil)⟩)
 have h4 : w.round = n.round ∧ 0 < w.round := by omega
 refine dv 2 ?_
 refine rlM [9, 10, 11] [_, _, _] (y2y c n fb) rfl rfl rfl ?_
 refine dv 8 ?_
 refine rlB v2v a6n ?_
 refine y5y (id := 7) p5p rfl v2v rfl rfl rfl rfl rfl rfl (dv 3 ?_)
 (rw [b7r fK fM, e5s k4 h4]; exact ⟨_, _, rfl, q1q rfl rfl rfl (f6j (k := 5) (f := n.id) (t := 0) (i := n.inc) (v := n.version) (r := n.round) (g := 0) rfl .nil)⟩)
theorem c3d (c : Bool) (h : Hb) (n : Nd) : a0j Tryz.prog 311 [.agg (a7d true h), .agg (u1u c n)] (.tup [.agg (a7d true (p3p h n).1), .agg (u1u true (p3p h n).2.1), v7v true (p3p h n).2.2]) := by
 refine pX Tryz.f311 [.agg (a7d true (p3p h n).1), .agg (u1u true (p3p h n).2.1), v7v true (p3p h n).2.2] 17 ?_
 refine dv 1 ?_
 refine y3y (id := 0) rfl rfl rfl (y3y (id := 1) rfl rfl rfl (x3x (id := 2) a6d b5f rfl (x3x (id := 3) u6u q4q rfl (dv 2 ?_))))
 refine y1y (id := 4) p5p rfl v2v rfl (dv 4 fun K K' => ?_)
 refine x0x rfl rfl rfl (a8s ..) (dc 2 (aS ?_ ?_))<;>intro hg2<;>try simp at hg2
 ·have fX : ¬ (s9s h ∧ y0y n) := fun q => a0p (by simpa using hg2) q.1
  refine dv 5 ?_
  refine rlB a6d b5f ?_
  refine rlB u6u q4q ?_
  refine dv 5 ?_
  (rw [e2b fX]; exact ⟨_, _, rfl, d5s (b5s (a2c (l := ([] : List Wo)) rfl .nil))⟩)
 have fH : s9s h := a0o.1 (by simpa using hg2)
 refine dv 1 ?_
 refine x0x rfl rfl rfl (w0w ..) (dc 2 (aI ?_ ?_))<;>intro hc3<;>try simp at hc3
 ·try have fX : ¬ (s9s h ∧ y0y n) := fun q => a0p (by simpa using hc3) q.2
  refine dv 1 ?_
  refine rlB a6d b5f ?_
  refine rlB u6u q4q ?_
  refine dv 5 ?_
  (rw [e2b fX]; exact ⟨_, _, rfl, d5s (b5s (a2c (l := ([] : List Wo)) rfl .nil))⟩)
 have fK : y0y n := a0o.1 (by simpa using hc3)
 have fS := fK.1
 have fb := b8v fS
 refine dv 3 ?_
 refine rlM [11, 12, 13] [_, _, _] (y2y c n fb) rfl rfl rfl ?_
 refine x3x (id := 5) u6u q4q rfl (dv 4 ?_)
 refine a0g (.int .i64 (n.led + 1)) rfl rfl rfl (a8v rfl rfl (by have := fS.1.2.2.2.1; omega) (by have := fS.1.2.2.2.1; omega)) ?_
 refine dc 8 (fun K K' => aS ?_ ?_)<;>intro hg5<;>try simp at hg5
 ·have fU : ¬ a4l n := fun q => by have := q.1; omega
  refine dv 10 ?_
  try have fU : ¬ a4l n := fun q => by have := q.2.2.1; omega
  refine dv 2 ?_
  refine x0x rfl rfl rfl (a2u true h fH) (dv 1 ?_)
  refine rlM [14, 15, 16] [_, _, _] (y2y c n fb) rfl rfl rfl ?_
  refine dv 5 ?_
  (rw [c2o ⟨fH, fK⟩ fU]; exact ⟨_, _, rfl, a7x (q1q rfl rfl rfl (a2c (l := ([] : List Wo)) rfl .nil))⟩)
 have hid : n.id = 0 := hg5
 refine dc 5 (aS ?_ ?_)<;>intro hg6<;>try simp at hg6
 ·try have fU : ¬ a4l n := fun h => by have := h.2.1; simp_all
  refine dv 5 ?_
  try have fU : ¬ a4l n := fun q => by have := q.2.2.1; omega
  refine dv 2 ?_
  refine x0x rfl rfl rfl (a2u true h fH) (dv 1 ?_)
  refine rlM [14, 15, 16] [_, _, _] (y2y c n fb) rfl rfl rfl ?_
  refine dv 5 ?_
  (rw [c2o ⟨fH, fK⟩ fU]; exact ⟨_, _, rfl, a7x (q1q rfl rfl rfl (a2c (l := ([] : List Wo)) rfl .nil))⟩)
 have fUp : n.up = true := hg6
 refine dv 2 ?_
 refine x0x rfl rfl rfl (z9z ..) (dc 2 (aI ?_ ?_))<;>intro j<;>try simp at j
 ·try have fU : ¬ a4l n := fun q => by have := q.2.2.1; omega
  refine dv 2 ?_
  refine x0x rfl rfl rfl (a2u true h fH) (dv 1 ?_)
  refine rlM [14, 15, 16] [_, _, _] (y2y c n fb) rfl rfl rfl ?_
  refine dv 5 ?_
  (rw [c2o ⟨fH, fK⟩ fU]; exact ⟨_, _, rfl, a7x (q1q rfl rfl rfl (a2c (l := ([] : List Wo)) rfl .nil))⟩)
 have hld : n.led < 9999 := by omega
 refine dv 5 ?_
 refine b5i rfl rfl rfl (d2o (n := d0j n) rfl rfl rfl (.cl rfl .nil)) (b0a false (d0j n) (n.led + 1)) (.tup (a3j (e5m _) (a3j (e5n _) (a3j (.pv _) f0o)))) ?_
 refine dv 4 ?_
 refine x3x (id := 6) u6u q4q rfl (x3x (id := 7) v2v a6n rfl (dc 7 (fun K K' => aI ?_ ?_)))<;>intro hc9<;>try simp at hc9
 ·have fU : ¬ a4l n := fun q => by have hb := (d0p fK hld).2 ⟨q.2.1, q.2.2.2⟩; have hx := hc9; simp only [d0j] at hb hx; simp_all
  refine dv 2 ?_
  refine x0x rfl rfl rfl (a2u true h fH) (dv 1 ?_)
  refine rlM [14, 15, 16] [_, _, _] (y2y c n fb) rfl rfl rfl ?_
  refine dv 5 ?_
  (rw [c2o ⟨fH, fK⟩ fU]; exact ⟨_, _, rfl, a7x (q1q rfl rfl rfl (a2c (l := ([] : List Wo)) rfl .nil))⟩)
 have hrb := (d0p fK hld).1 (by have hx := hc9; simp only [d0j] at hx ⊢; exact hx)
 have fM : a4l n := ⟨hid, fUp, hld, hrb.2⟩
 have hEq := e6c (h := h) ⟨fH, fK⟩ fM
 refine dv 3 ?_
 refine x0x rfl rfl rfl (a2u true h fH) (x3x (id := 8) a6d b5f rfl (dv 8 ?_))
 refine y5y (id := 9) p5p rfl v2v rfl rfl rfl rfl rfl rfl (dv 3 ?_)
 refine y1y (id := 10) p5p rfl v2v rfl (dv 7 ?_)
 refine rlB v2v a6n ?_
 refine x0x rfl rfl rfl (b7u 2 0 0 0 0 (n.led + 1) 0) ?_
 refine dv 4 ?_
 (rw [show u5u (d0j n) (n.led + 1) = _ from hEq]; rw [d2s ⟨fH, fK⟩ fM]; exact ⟨_, _, rfl, f4p (a := [e0u (d0j n) (n.led + 1)]) (c := ([] : List Wo)) rfl rfl (d0v (.cl rfl .nil))⟩)
end
section
theorem a9d (c : Bool) (h : Hb) (n : Nd) (w : Wo) : a0j Tryz.prog 322 [.agg (a7d true h), .agg (u1u c n), .agg (u3u c w)] (.tup [.agg (a7d true (v1v h n w).1), .agg (u1u true (v1v h n w).2.1), v7v true (v1v h n w).2.2]) := by
 refine pX Tryz.f322 [.agg (a7d true (v1v h n w).1), .agg (u1u true (v1v h n w).2.1), v7v true (v1v h n w).2.2] 14 ?_
 refine dv 1 ?_
 refine y3y (id := 0) rfl rfl rfl (y3y (id := 1) rfl rfl rfl (y3y (id := 2) rfl rfl rfl (x3x (id := 3) a6d b5f rfl (x3x (id := 4) u6u q4q rfl (dv 2 ?_)))))
 refine y1y (id := 5) p5p rfl v2v rfl (dv 4 fun K K' => ?_)
 refine x0x rfl rfl rfl (a8s ..) (dc 2 (aS ?_ ?_))<;>intro hg2<;>try simp at hg2
 ·have fX : ¬ (s9s h ∧ y0y n) := fun q => a0p (by simpa using hg2) q.1
  refine dv 5 ?_
  refine rlB a6d b5f ?_
  refine rlB u6u q4q ?_
  refine dv 5 ?_
  (rw [f4d fX]; exact ⟨_, _, rfl, d5s (b5s (a2c (l := ([] : List Wo)) rfl .nil))⟩)
 have fH : s9s h := a0o.1 (by simpa using hg2)
 refine dv 1 ?_
 refine x0x rfl rfl rfl (w0w ..) (dc 2 (aI ?_ ?_))<;>intro hc3<;>try simp at hc3
 ·try have fX : ¬ (s9s h ∧ y0y n) := fun q => a0p (by simpa using hc3) q.2
  refine dv 1 ?_
  refine rlB a6d b5f ?_
  refine rlB u6u q4q ?_
  refine dv 5 ?_
  (rw [f4d fX]; exact ⟨_, _, rfl, d5s (b5s (a2c (l := ([] : List Wo)) rfl .nil))⟩)
 have fK : y0y n := a0o.1 (by simpa using hc3)
 have fS := fK.1
 have fb := b8v fS
 refine dv 3 ?_
 refine x0x rfl rfl rfl (a2u true h fH) (x3x (id := 6) a6d b5f rfl (dv 3 ?_))
 refine rlM [10, 11, 12] [_, _, _] (y2y c n fb) rfl rfl rfl ?_
 refine x3x (id := 7) u6u q4q rfl (dc 7 (fun K K' => aS ?_ ?_))<;>intro hg5<;>try simp at hg5
 ·have fU : ¬ a0w n w := fun q => by have := q.1; omega
  refine dv 19 ?_
  try have fU : ¬ a0w n w := fun q => by have := q.2.2.2.2; omega
  refine dv 8 ?_
  (rw [e2s ⟨fH, fK⟩ fU]; exact ⟨_, _, rfl, a7x (q1q rfl rfl rfl (a2c (l := ([] : List Wo)) rfl .nil))⟩)
 try have hid : n.id = 0 := hg5
 refine dc 5 (aS ?_ ?_)<;>intro hg6<;>try simp at hg6
 ·try have fU : ¬ a0w n w := fun q => by have := q.2.1; simp_all
  refine dv 14 ?_
  try have fU : ¬ a0w n w := fun q => by have := q.2.2.2.2; omega
  refine dv 8 ?_
  (rw [e2s ⟨fH, fK⟩ fU]; exact ⟨_, _, rfl, a7x (q1q rfl rfl rfl (a2c (l := ([] : List Wo)) rfl .nil))⟩)
 have fUp : n.up = true := hg6
 refine dv 1 ?_
 refine x0x rfl rfl rfl (b0x ..) (dc 3 (aS ?_ ?_))<;>intro hg7<;>try simp at hg7
 ·try have fU : ¬ a0w n w := fun q => absurd q.2.2.1 hg7
  refine dv 9 ?_
  try have fU : ¬ a0w n w := fun q => by have := q.2.2.2.2; omega
  refine dv 8 ?_
  (rw [e2s ⟨fH, fK⟩ fU]; exact ⟨_, _, rfl, a7x (q1q rfl rfl rfl (a2c (l := ([] : List Wo)) rfl .nil))⟩)
 have fW : a1r w := hg7
 refine dc 5 (aS ?_ ?_)<;>intro hg8<;>try simp at hg8
 ·try have fU : ¬ a0w n w := fun q => by have := q.2.2.2.1; omega
  refine dv 4 ?_
  try have fU : ¬ a0w n w := fun q => by have := q.2.2.2.2; omega
  refine dv 8 ?_
  (rw [e2s ⟨fH, fK⟩ fU]; exact ⟨_, _, rfl, a7x (q1q rfl rfl rfl (a2c (l := ([] : List Wo)) rfl .nil))⟩)
 try have hto : w.to = 0 := hg8
 refine dc 4 (aI ?_ ?_)<;>intro o<;>try simp at o
 ·try have fU : ¬ a0w n w := fun q => by have := q.2.2.2.2; omega
  refine dv 8 ?_
  (rw [e2s ⟨fH, fK⟩ fU]; exact ⟨_, _, rfl, a7x (q1q rfl rfl rfl (a2c (l := ([] : List Wo)) rfl .nil))⟩)
 have fM : a0w n w := ⟨hid, fUp, fW, hto, by omega⟩
 refine dc 9 (fun K K' => aI ?_ ?_)<;>intro hc11<;>try simp at hc11
 ·try have k7 : w.kind = 7 := hc11
  refine dv 5 ?_
  refine x0x rfl rfl rfl (c8e h.outs w.from') ?_
  refine dv 3 ?_
  refine x3x (id := 8) v2v a6n rfl (dc 6 (aS ?_ ?_))<;>intro hg12<;>try simp at hg12
  ·have hnone : (b5w w.from' h.outs).isSome = false := by simpa using hg12
   refine dv 6 ?_
   have hl : a3k h w = true := e6d hnone
   have hE : v1v h n w = ({ h with outs := a6h w true h.outs false }, n, []) := by rw [b5y ⟨fH, fK⟩ fM, e8c k7 hl]
   refine dv 4 ?_
   refine x0x rfl rfl rfl (a4e c w (d0i fW)) ?_
   refine x0x rfl rfl rfl (a7h h.outs w true (by have := b5v fH.2.2.2.1; omega)) ?_
   refine dv 10 ?_
   (rw [hE]; exact ⟨_, _, rfl, a7x (u := { h with outs := a6h w true h.outs false }) (q1q rfl rfl rfl (a2c (l := ([] : List Wo)) rfl .nil))⟩)
  have hsome : (b5w w.from' h.outs).isSome = true := hg12
  refine dc 6 (aS ?_ ?_)<;>intro o<;>try simp at o
  ·have hl : ¬ a3k h w = true := fun q => by have := (d0q hsome).1 q; omega
   have hE : v1v h n w = (h, n, []) := by rw [b5y ⟨fH, fK⟩ fM, f4e k7 hl]
   refine dv 9 ?_
   (rw [hE]; exact ⟨_, _, rfl, a7x (u := h) (q1q rfl rfl rfl (a2c (l := ([] : List Wo)) rfl .nil))⟩)
  have hl : a3k h w = true := (d0q hsome).2 (by omega)
  have hE : v1v h n w = ({ h with outs := a6h w true h.outs false }, n, []) := by rw [b5y ⟨fH, fK⟩ fM, e8c k7 hl]
  refine dv 4 ?_
  refine x0x rfl rfl rfl (a4e c w (d0i fW)) ?_
  refine x0x rfl rfl rfl (a7h h.outs w true (by have := b5v fH.2.2.2.1; omega)) ?_
  refine dv 10 ?_
  (rw [hE]; exact ⟨_, _, rfl, a7x (u := { h with outs := a6h w true h.outs false }) (q1q rfl rfl rfl (a2c (l := ([] : List Wo)) rfl .nil))⟩)
 try have n7 : ¬ w.kind = 7 := hc11
 refine dc 3 (aI ?_ ?_)<;>intro hc15<;>try simp at hc15
 ·try have k3 : w.kind = 3 := hc15
  refine dc 8 (fun K K' => aS ?_ ?_)<;>intro hg17<;>try simp at hg17
  ·try have hr : ¬ w.round = h.round := hg17
   refine dv 17 ?_
   have hm : ¬ d7g h w := fun q => by obtain ⟨q1, q2, q3, q4⟩ := q; omega
   have hE : v1v h n w = (h, n, []) := by rw [b5y ⟨fH, fK⟩ fM, d5o k3 hm]
   refine dv 8 ?_
   (rw [hE]; exact ⟨_, _, rfl, a7x (u := h) (q1q rfl rfl rfl (a2c (l := ([] : List Wo)) rfl .nil))⟩)
  try have hr : w.round = h.round := hg17
  refine dc 6 (aS ?_ ?_)<;>intro hg18<;>try simp at hg18
  ·try have hz : w.incs.length = 0 := by (rw [hg18]; rfl)
   refine dv 11 ?_
   have hm : ¬ d7g h w := fun q => by obtain ⟨q1, q2, q3, q4⟩ := q; omega
   have hE : v1v h n w = (h, n, []) := by rw [b5y ⟨fH, fK⟩ fM, d5o k3 hm]
   refine dv 8 ?_
   (rw [hE]; exact ⟨_, _, rfl, a7x (u := h) (q1q rfl rfl rfl (a2c (l := ([] : List Wo)) rfl .nil))⟩)
  have hi1 : ¬ w.incs.length = 0 := by (intro q; exact hg18 (List.length_eq_zero_iff.1 q))
  refine dc 6 (aS ?_ ?_)<;>intro hg19<;>try simp at hg19
  ·try have hz2 : w.versions.length = 0 := by (rw [hg19]; rfl)
   refine dv 5 ?_
   have hm : ¬ d7g h w := fun q => by obtain ⟨q1, q2, q3, q4⟩ := q; omega
   have hE : v1v h n w = (h, n, []) := by rw [b5y ⟨fH, fK⟩ fM, d5o k3 hm]
   refine dv 8 ?_
   (rw [hE]; exact ⟨_, _, rfl, a7x (u := h) (q1q rfl rfl rfl (a2c (l := ([] : List Wo)) rfl .nil))⟩)
  have hv1 : ¬ w.versions.length = 0 := by (intro q; exact hg19 (List.length_eq_zero_iff.1 q))
  refine dc 5 (aI ?_ ?_)<;>intro o<;>try simp at o
  ·have hm : ¬ d7g h w := fun q => by obtain ⟨q1, q2, q3, q4⟩ := q; omega
   have hE : v1v h n w = (h, n, []) := by rw [b5y ⟨fH, fK⟩ fM, d5o k3 hm]
   refine dv 8 ?_
   (rw [hE]; exact ⟨_, _, rfl, a7x (u := h) (q1q rfl rfl rfl (a2c (l := ([] : List Wo)) rfl .nil))⟩)
  have hm : d7g h w := ⟨hr, hi1, hv1, by omega⟩
  refine dv 5 ?_
  refine x0x rfl rfl rfl (a4e c w (d0i fW)) ?_
  refine x0x rfl rfl rfl (a7h h.ones w false (by have := b5v fH.2.1; omega)) ?_
  refine dc 7 (aS ?_ ?_)<;>intro o<;>try simp at o
  ·have h3 : ¬ (d5g h w).ones.length = 3 := by show ¬ (a6h w false h.ones false).length = 3; omega
   have hE : v1v h n w = (d5g h w, n, []) := by rw [b5y ⟨fH, fK⟩ fM, f4h k3 hm h3]
   refine dv 9 ?_
   (rw [hE]; exact ⟨_, _, rfl, a7x (u := d5g h w) (q1q rfl rfl rfl (a2c (l := ([] : List Wo)) rfl .nil))⟩)
  have h3 : (d5g h w).ones.length = 3 := by show (a6h w false h.ones false).length = 3; omega
  have hE : v1v h n w = ({ d5g h w with twos := [f5d h n] }, n, e3v (f0x h.round)) := by rw [b5y ⟨fH, fK⟩ fM, f4g k3 hm h3]
  refine dv 7 ?_
  refine rlB v2v a6n ?_
  refine y5y (id := 9) p5p rfl v2v rfl rfl rfl rfl rfl rfl (dv 7 ?_)
  refine rlB v2v a6n ?_
  refine x0x rfl rfl rfl (b7u 4 0 0 0 0 h.round 0) (dv 4 ?_)
  (rw [hE]; exact ⟨_, _, rfl, f4o (R := h.round) (a := (d5g h w).ones) (b := h.outs) (k := 5) (f := 0) (t := 0) (i := n.inc) (v := n.version) (r := h.round) (g := 0) rfl (q1q rfl rfl rfl (.cl rfl .nil))⟩)
 try have n3 : ¬ w.kind = 3 := hc15
 refine dc 3 (aS ?_ ?_)<;>intro hc25<;>try simp at hc25
 ·try have n5 : ¬ w.kind = 5 := hc25
  have hE : v1v h n w = (h, n, []) := by rw [b5y ⟨fH, fK⟩ fM, f6e n7 n3 n5]
  refine dv 9 ?_
  (rw [hE]; exact ⟨_, _, rfl, a7x (u := h) (q1q rfl rfl rfl (a2c (l := ([] : List Wo)) rfl .nil))⟩)
 try have k5 : w.kind = 5 := hc25
 refine dc 8 (fun K K' => aS ?_ ?_)<;>intro hg27<;>try simp at hg27
 ·try have hr : ¬ w.round = h.round := hg27
  refine dv 11 ?_
  have hm : ¬ e3w h w := fun q => by obtain ⟨q1, q2, q3⟩ := q; omega
  have hE : v1v h n w = (h, n, []) := by rw [b5y ⟨fH, fK⟩ fM, e2t k5 hm]
  refine dv 8 ?_
  (rw [hE]; exact ⟨_, _, rfl, a7x (u := h) (q1q rfl rfl rfl (a2c (l := ([] : List Wo)) rfl .nil))⟩)
 try have hr : w.round = h.round := hg27
 refine dc 6 (aS ?_ ?_)<;>intro o<;>try simp at o
 ·refine dv 5 ?_
  have hm : ¬ e3w h w := fun q => by obtain ⟨q1, q2, q3⟩ := q; omega
  have hE : v1v h n w = (h, n, []) := by rw [b5y ⟨fH, fK⟩ fM, e2t k5 hm]
  refine dv 8 ?_
  (rw [hE]; exact ⟨_, _, rfl, a7x (u := h) (q1q rfl rfl rfl (a2c (l := ([] : List Wo)) rfl .nil))⟩)
 refine dc 5 (aI ?_ ?_)<;>intro o<;>try simp at o
 ·have hm : ¬ e3w h w := fun q => by obtain ⟨q1, q2, q3⟩ := q; omega
  have hE : v1v h n w = (h, n, []) := by rw [b5y ⟨fH, fK⟩ fM, e2t k5 hm]
  refine dv 8 ?_
  (rw [hE]; exact ⟨_, _, rfl, a7x (u := h) (q1q rfl rfl rfl (a2c (l := ([] : List Wo)) rfl .nil))⟩)
 have hm : e3w h w := ⟨hr, by omega, by omega⟩
 refine dv 5 ?_
 refine x0x rfl rfl rfl (a4e c w (d0i fW)) ?_
 refine x0x rfl rfl rfl (a7h h.twos w false (by have := b5v fH.2.2.1; omega)) ?_
 refine dv 4 ?_
 refine x0x rfl rfl rfl (c3a true (a9z h w)) ?_
 refine dc 7 (aS ?_ ?_)<;>intro hc30<;>try simp at hc30
 ·have hj : ¬ (p8p (a9z h w)).2 = true := by simpa using hc30
  have hE : v1v h n w = ((a9z h w), n, []) := by rw [b5y ⟨fH, fK⟩ fM, f4j k5 hm hj]
  refine dv 9 ?_
  (rw [hE]; exact ⟨_, _, rfl, a7x (u := a9z h w) (q1q rfl rfl rfl (a2c (l := ([] : List Wo)) rfl .nil))⟩)
 have hj : (p8p (a9z h w)).2 = true := hc30
 have hjo := e2r hj
 have hE : v1v h n w = ((a9z h w), (q6q n h.round (p8p (a9z h w)).1).1, b4n (a9z h w) (p8p (a9z h w)).1 2) := by rw [b5y ⟨fH, fK⟩ fM, f4i k5 hm hj]
 refine dv 5 ?_
 refine x0x rfl rfl rfl (b0c c n h.round (p8p (a9z h w)).1) ?_
 refine dv 8 ?_
 refine rlB v2v a6n ?_
 refine rlM [13] [_] (c2z 6 0 0 0 0 h.round (p8p (a9z h w)).1) rfl rfl rfl ?_
 refine dv 5 fun K K' => ?_
 refine x5x (ι := Nat) (fun i γ1 => [(17, pI (i : Int))]) (fun i γ1 => [(13, ((0 + 1), .row 79 11 ((b4n (a9z h w) (p8p (a9z h w)).1 i).map (u3u true))))]) (fun i => i ≤ 2) (fun i => 2 - i) (r2r [6, 7, 10, 11, 16] rfl) (a1p [0, 1, 2, 3, 4, 5, 6, 7, 8, 9, 10, 11, 12] rfl) 0 (by omega) [] x6x (HE.row rfl (by rfl) HE.nil) rfl fun i γ1 hi => ?_
 refine dv 4 fun K K' => ?_
 refine a4i (n := 2) rfl p5p rfl rfl (by simp [b4n]) ?_
 refine dc 1 (aS ?_ ?_)<;>intro o<;>try simp at o
 ·obtain rfl : i = 2 := by omega
  refine dv 9 ?_
  (rw [hE]; exact ⟨_, _, rfl, a7x (u := a9z h w) (d0v (a2c (l := b4n (a9z h w) (p8p (a9z h w)).1 2) rfl .nil))⟩)
 have hi2 : i < 2 := by omega
 have hat := e2p (a9z h w) (p8p (a9z h w)).1 hi2
 have hlen : (b4n (a9z h w) (p8p (a9z h w)).1 i).length = 2 := by simp [b4n]
 obtain ⟨b, hb⟩ : ∃ b, (a9z h w).twos[i + 1]? = some b := ⟨_, List.getElem?_eq_getElem (by have := hjo.2.2.1; omega)⟩
 refine dv 10 fun K K' => ?_
 refine z0z (j := i) rfl rfl p5p rfl v2v rfl rfl (by omega) ?_
 refine dv 2 ?_
 refine b1z (j := i + 1) rfl rfl p5p rfl v2v rfl hb ?_
 refine dv 2 ?_
 refine z0z (j := i) rfl rfl p5p rfl v2v rfl rfl (by omega) ?_
 refine dv 1 ?_
 refine b3p (c7o (a9z h w) (p8p (a9z h w)).1 (i + 1)) rfl rfl r3r rfl rfl rfl hat rfl (by decide) (.val rfl rfl .nil) (by rw [show b.inc = (c7o (a9z h w) (p8p (a9z h w)).1 (i + 1)).inc from (e2q hb _).symm]; rfl) rfl ?_
 refine dv 2 ?_
 refine x7x (b := 1) rfl rfl (by omega) (dv 1 ?_)
 exact ⟨i + 1, ⟨by omega, by omega⟩, [], x6x, x6x, (HE.row rfl (by rw [d7j _ _ hi2]) HE.nil), x4x, rfl⟩
theorem c4g (c : Bool) (h : Hb) (n : Nd) : a0j Tryz.prog 326 [.agg (a7d true h), .agg (u1u c n)] (r8r true (a7w h n)) := by
 refine pX Tryz.f326 [r8r true (a7w h n)] 8 ?_
 refine dv 1 ?_
 refine y3y (id := 0) rfl rfl rfl (y3y (id := 1) rfl rfl rfl (dv 2 ?_))
 refine y1y (id := 2) a0c rfl v9v rfl (dv 4 fun K K' => ?_)
 refine x0x rfl rfl rfl (a8s ..) (dc 2 (aS ?_ ?_))<;>intro hg2<;>try simp at hg2
 ·have fX : ¬ (s9s h ∧ y0y n ∧ n.id = 0 ∧ h.outs.length = 2) := fun q => a0p (by simpa using hg2) q.1
  refine dv 15 ?_
  try have fX : ¬ (s9s h ∧ y0y n ∧ n.id = 0 ∧ h.outs.length = 2) := fun q => by have := q.2.2.2; omega
  refine dv 4 ?_
  (rw [d0r fX]; exact a4j (l := ([] : List Ou)) rfl rfl (fun _ => rfl) rfl)
 have fH : s9s h := a0o.1 (by simpa using hg2)
 refine dv 1 ?_
 refine x0x rfl rfl rfl (w0w ..) (dc 3 (aS ?_ ?_))<;>intro hg3<;>try simp at hg3
 ·try have fX : ¬ (s9s h ∧ y0y n ∧ n.id = 0 ∧ h.outs.length = 2) := fun q => a0p (by simpa using hg3) q.2.1
  refine dv 10 ?_
  try have fX : ¬ (s9s h ∧ y0y n ∧ n.id = 0 ∧ h.outs.length = 2) := fun q => by have := q.2.2.2; omega
  refine dv 4 ?_
  (rw [d0r fX]; exact a4j (l := ([] : List Ou)) rfl rfl (fun _ => rfl) rfl)
 have fK : y0y n := a0o.1 (by simpa using hg3)
 refine dc 5 (aS ?_ ?_)<;>intro hg4<;>try simp at hg4
 ·try have fX : ¬ (s9s h ∧ y0y n ∧ n.id = 0 ∧ h.outs.length = 2) := fun q => by have := q.2.2.1; omega
  refine dv 5 ?_
  try have fX : ¬ (s9s h ∧ y0y n ∧ n.id = 0 ∧ h.outs.length = 2) := fun q => by have := q.2.2.2; omega
  refine dv 4 ?_
  (rw [d0r fX]; exact a4j (l := ([] : List Ou)) rfl rfl (fun _ => rfl) rfl)
 try have hid : n.id = 0 := hg4
 refine dc 5 (aI ?_ ?_)<;>intro o<;>try simp at o
 ·try have fX : ¬ (s9s h ∧ y0y n ∧ n.id = 0 ∧ h.outs.length = 2) := fun q => by have := q.2.2.2; omega
  refine dv 4 ?_
  (rw [d0r fX]; exact a4j (l := ([] : List Ou)) rfl rfl (fun _ => rfl) rfl)
 have h2 : h.outs.length = 2 := by omega
 have fT : s9s h ∧ y0y n ∧ n.id = 0 ∧ h.outs.length = 2 := ⟨fH, fK, hid, h2⟩
 have hno := (w2w fK.1).2.2.1
 have hwo := d5p fH.2.2.2.1
 refine dv 9 ?_
 refine w6w (zs := n.outs.map q5q) rfl rfl a0c rfl v9v rfl rfl rfl (z8z (fun _ => rfl) _) rfl (by (simp only [a0b, r5r, s1s, s3s, a0t, a3b, T141]; omega)) ?_
 refine dv 5 fun K K' => ?_
 refine x5x (ι := Nat) (fun i γ1 => [(5, .ref 2 (γ1 2)), (6, pI (a1c n.g (h.outs.take i))), (7, pI (i : Int))]) (fun i γ1 => [(2, ((γ1 2), .row 141 5 ((n.outs ++ (h.outs.take i).flatMap Wo.outs).map q5q))), (4, ((γ1 4), .dead))]) (fun i => i ≤ h.outs.length) (fun i => h.outs.length - i) (x8x 2 rfl Cov.nil) (a1p [0, 1, 3, 5, 6, 7] rfl) 0 (by omega) [0, 0, _, 0, _] (x8x 5 rfl (Cov.cons' (t := 6) rfl (rfl) (x8x 7 rfl Cov.nil))) (HE.row rfl (by simp) (HE.kill rfl HE.nil)) rfl fun i γ1 hi => ?_
 refine dc 7 (fun K K' => aI ?_ ?_)<;>intro o<;>try simp at o
 ·obtain ⟨w, hw⟩ := gE h.outs i
  have hw96 := hwo w (List.mem_of_getElem? hw)
  have hfl := a0s (f := Wo.outs) (k := 96) (l := h.outs.take i) fun a ha => hwo a (List.mem_of_mem_take ha)
  have htl : (h.outs.take i).length ≤ 2 := by rw [List.length_take]; omega
  refine dv 3 fun K K' => ?_
  refine q8q (ι := Unit) (fun _i γ2 => [(6, pI (a1c n.g (h.outs.take (i + 1))))]) (fun _i γ2 => []) (fun _i => True) (r2r [2, 5, 7] rfl) (a1p [0, 1, 2, 3, 4, 5, 6, 7] rfl) ?_ fun _i γ2 hi => ?_
  ·refine dc 9 (aS ?_ ?_)<;>intro o<;>try simp at o
   ·have hlt : ¬ w.g < a1c n.g (h.outs.take i) := by omega
    refine dv 1 ?_
    exact ⟨(), trivial, [], (Cov.cons' (t := 6) rfl (congrArg (fun v : Int => AV.pv (.int .i64 v)) (d5n hw hlt)) Cov.nil), x6x, x4x, x4x, rfl⟩
   have hlt : w.g < a1c n.g (h.outs.take i) := by omega
   refine dv 8 ?_
   exact ⟨(), trivial, [], (Cov.cons' (t := 6) rfl (congrArg (fun v : Int => AV.pv (.int .i64 v)) (d5m hw hlt)) Cov.nil), x6x, x4x, x4x, rfl⟩
  ·try dsimp only [b2t, b2u]
   refine dv 8 ?_
   refine w6w (zs := (n.outs ++ (h.outs.take i).flatMap Wo.outs ++ w.outs).map q5q) rfl rfl a0c rfl v9v rfl rfl rfl (z8z (fun _ => rfl) _) (a7s _ _ _) (by (simp only [a0b, r5r, s1s, s3s, a0t, a3b, T141]; omega)) ?_
   refine dv 3 ?_
   refine x7x (b := 1) rfl rfl (by omega) (dv 1 ?_)
   exact ⟨i + 1, ⟨by omega, by omega⟩, [0, 0, _, 0, _], x6x, x6x, (HE.row rfl (by rw [a2m hw, List.append_assoc]) (HE.kill rfl HE.nil)), x4x, rfl⟩
 obtain rfl : i = h.outs.length := by omega
 rw [List.take_length]
 refine dv 1 ?_
 have hall : (n.outs ++ h.outs.flatMap Wo.outs).length ≤ 10000 := by have hfl := a0s (f := Wo.outs) (k := 96) (l := h.outs) hwo; rw [List.length_append]; omega
 obtain ⟨A, hA⟩ : ∃ A, A = (n.outs ++ h.outs.flatMap Wo.outs) := ⟨_, rfl⟩
 rw [← hA] at hall ⊢
 refine r6r 5 rfl rfl (fun _ => rfl) ?_
 refine dv 1 ?_
 refine y1y (id := 5) a0c rfl v9v rfl (dv 5 fun K K' => ?_)
 refine x5x (ι := Nat) (fun j γ3 => [(8, .ref 5 (γ3 5)), (9, pI (j : Int))]) (fun j γ3 => [(5, ((γ3 5), .row 141 5 (((A.take j).filter (d2w (a1c n.g h.outs))).map q5q))), (6, ((γ3 6), .dead)), (7, ((γ3 7), .dead))]) (fun j => j ≤ A.length) (fun j => A.length - j) (r2r [5, 6] rfl) (a1p [0, 1, 2, 3, 4] rfl) 0 (by omega) [0, 0, 0, 0, 0, _, _, _] x6x (HE.row rfl (by rw [List.take_zero]; rfl) (HE.kill rfl (HE.kill rfl HE.nil))) rfl fun j γ3 hi => ?_
 refine dc 6 (fun K K' => aS ?_ ?_)<;>intro o<;>try simp at o
 ·obtain rfl : j = A.length := by omega
  have hfl3 : (A.filter (d2w (a1c n.g h.outs))).length ≤ 10000 := Nat.le_trans (List.length_filter_le _ _) (by omega)
  refine dv 1 ?_
  rw [List.take_length]
  refine r6r 8 rfl rfl (fun _ => rfl) ?_
  refine dv 2 ?_
  refine x0x rfl rfl rfl (a4c true (A.filter (d2w (a1c n.g h.outs))) (by omega)) ?_
  refine dv 2 ?_
  (rw [e8d fT, ← hA]; exact x2x rfl rfl rfl)
 obtain ⟨p, hp⟩ := gE A j
 have hfl2 : ((A.take j).filter (d2w (a1c n.g h.outs))).length ≤ 10000 := Nat.le_trans (List.length_filter_le _ _) (by rw [List.length_take]; omega)
 refine dc 11 (fun K K' => aS ?_ ?_)<;>intro o<;>try simp at o
 ·have hq : ¬ d2w (a1c n.g h.outs) p = true := fun q => by have := of_decide_eq_true q; omega
  refine dv 3 ?_
  refine x7x (b := 1) rfl rfl (by omega) (dv 1 ?_)
  exact ⟨j + 1, ⟨by omega, by omega⟩, [0, 0, 0, 0, 0, _, _, _], x6x, x6x, (HE.row rfl (by rw [r7r hp]; rw [if_neg hq, List.append_nil]) (HE.kill rfl (HE.kill rfl HE.nil))), x4x, rfl⟩
 have hq : d2w (a1c n.g h.outs) p = true := decide_eq_true (by omega)
 refine dv 5 ?_
 refine v0v (out := .agg (q5q p)) rfl v9v rfl ?_
 refine y5y (id := 6) a0c rfl v9v rfl rfl rfl rfl rfl rfl ?_
 refine y6y (zs := ((A.take j).filter (d2w (a1c n.g h.outs)) ++ [p]).map q5q) rfl rfl a0c rfl v9v rfl rfl rfl rfl (by rfl) (u0u _ _ _) (by (simp only [a0b, r5r, s1s, s3s, a0t, a3b, T141]; omega)) ?_
 refine dv 3 ?_
 refine x7x (b := 1) rfl rfl (by omega) (dv 1 ?_)
 exact ⟨j + 1, ⟨by omega, by omega⟩, [0, 0, 0, 0, 0, _, _, _], x6x, x6x, (HE.row rfl (by rw [r7r hp]; rw [if_pos hq]) (HE.kill rfl (HE.kill rfl HE.nil))), x4x, rfl⟩
end
section
variable {W : Tw} {i : Nat}
theorem a5l (h : b9i W) {m : Nd} (hm : ndI m) : b9i { W with nodes := W.nodes.set i m } := ⟨h.1, by show (W.nodes.set i m).length = 3; rw [List.length_set]; exact h.2.1, f6h h.2.2.1 hm, h.2.2.2⟩
variable {r : List Wo}
theorem a6b (h : b9i W) (h1 : r.length ≤ 40) (h2 : ∀ x ∈ r, c7p x) : b9i { W with radio := r } := ⟨h.1, h.2.1, h.2.2.1, h1, h2, h.2.2.2.2.2⟩
theorem d0z (h : b9i W) {u : Hb} (hu : s9s u) : b9i { W with hub := u } := ⟨h.1, h.2.1, h.2.2.1, h.2.2.2.1, h.2.2.2.2.1, hu, h.2.2.2.2.2.2⟩
theorem f1w (h : b9i W) {s : List Ou} (hs : s.length ≤ 1000000) : b9i { W with sink := s } := ⟨h.1, h.2.1, h.2.2.1, h.2.2.2.1, h.2.2.2.2.1, h.2.2.2.2.2.1, hs⟩
theorem b3f (h : b9i W) (hi : i ≤ 2) : ∃ n, W.nodes[i]? = some n ∧ ndI n := by
 obtain ⟨n, hn⟩ := f1j h.2.1 i (by omega)
 exact ⟨n, hn, h.2.2.1 n (List.mem_of_getElem? hn)⟩
variable {m : List Wo}
theorem b3g (h : b9i W) (k : ∀ x ∈ m, c7p x) : b9i { W with radio := b0u W.radio m } := a6b h (e5z h.2.2.2.1) (e6a h.2.2.2.2.1 k)
theorem e3k {w : Wo} (h : m[i]? = some w) (hl : (r ++ m.take i).length < 40) : r ++ m.take i ++ [w] = r ++ m.take (i + 1) := by rw [z5z h, List.append_assoc]
theorem d5u (hr : r.length ≤ 40) (hi : i ≤ m.length) (h40 : r.length + i ≤ 40) (h : ¬ (i < m.length ∧ r.length + i < 40)) : r ++ m.take i = b0u r m := by
 unfold b0u
 rcases Nat.lt_or_ge i m.length with h1 | h1
 ·rw [show 40 - r.length = i from by omega]
 ·rw [List.take_of_length_le h1, List.take_of_length_le (by omega)]
variable {h : Hb} {n : Nd}
theorem e6o : (a7w h n).length ≤ 10000 := by
 by_cases k : s9s h ∧ y0y n ∧ n.id = 0 ∧ h.outs.length = 2
 ·rw [e8d k, b3t]
  have hno := (w2w k.2.1.1).2.2.1
  have hwo := d5p k.1.2.2.2.1
  have hfl := a0s (f := Wo.outs) (k := 96) (l := h.outs) hwo
  refine Nat.le_trans (List.length_filter_le _ _) ?_
  rw [List.length_append]; omega
 ·rw [d0r k]; exact Nat.zero_le _

def kpB : Bool → List Nat
 | true => [0]
 | false => [0, 1]
def kpS : List Wo → List Nat
 | [] => [0]
 | _ :: _ => []
theorem d2z (γ : Nat → Nat) (b : Bool) (f : List Nat → Nat → Nat) (h0 : f [γ 0, γ 1] 0 = γ 0) (h1 : f [γ 0, γ 1] 1 = γ 1) : (kpB b).map (f [γ 0, γ 1]) = (kpB b).map γ := by
 cases b <;> simp [kpB, h0, h1]
theorem c3e (k : s9s h ∧ y0y n) : ((p3p h n).2.2 = [] ∧ ¬ n.led < (p3p h n).2.1.led) ∨ n.led < (p3p h n).2.1.led := by
 by_cases m : a4l n
 ·rw [d2s k m]; exact .inr (by show n.led < n.led + 1; omega)
 ·rw [c2o k m]; exact .inl ⟨rfl, by show ¬ n.led < n.led; omega⟩
variable {j : Nat}
theorem e3l (h : b9i W) : (W.radio.take j ++ W.radio.drop (j + 1)).length ≤ 40 := by
 have := h.2.2.2.1
 simp only [List.length_append, List.length_take, List.length_drop]; omega
theorem e3m (h : b9i W) : ∀ q ∈ W.radio.take j ++ W.radio.drop (j + 1), c7p q := fun q hq =>
 h.2.2.2.2.1 q ((List.mem_append.1 hq).elim List.mem_of_mem_take List.mem_of_mem_drop)
theorem f1x {W T : Tw} (h : b9i W) (k : b9i T) : b9i { W with nodes := T.nodes } := ⟨h.1, k.2.1, k.2.2.1, h.2.2.2⟩
theorem b0y (bs : List Nat) (p n : Nat) : pk bs p n ≤ n := by
 rcases Nat.eq_zero_or_pos n with h | h
 ·subst h; unfold pk; rw [if_pos (.inl (by omega))]; exact Nat.le_refl _
 ·exact Nat.le_of_lt (a3t bs p n h)

def pSm (S : Sm) (p : Nat) : Sm := ⟨S.w, S.list, p⟩
theorem a3c {S : Sm} {c d p : Nat} (h : smOk S c) (hd : c ≤ d) (hp : p ≤ d) : smOk (pSm S p) d := ⟨h.1, Nat.le_trans h.2.1 hd, hp⟩

def f5h (l : List Ru) : Prop := ∀ (i : Nat) r, l[i]? = some r → r.kind = (i : Int) ∧ c8j r
theorem ru0 {k : Int} : c8j ⟨k, []⟩ := ⟨fun o h => (by cases h), Nat.zero_le _, Nat.zero_le _, Nat.zero_le _⟩
theorem f4r {l : List Ru} (hl : l.length ≤ 3) (h : f5h l) : d1i ⟨l⟩ := ⟨by show l.length ≤ 4; omega, fun i r hr => by
 have hi : i < l.length := (List.getElem?_eq_some_iff.1 hr).1
 have h1 := h i r hr
 refine ⟨by omega, h1.2, fun p h0 hp => ?_⟩
 have h2 := h _ p hp
 omega⟩
theorem f4s {l : List Ru} {ops : List Op_} {q q1 q2 : Nat} (h : f5h l) (ho : c8j ⟨(l.length : Int), ops⟩) (hl : l.length < 3) (h3 : q1 ≤ q + 40 * l.length) (h4 : q2 ≤ q1 + 40) : (l ++ [(⟨(l.length : Int), ops⟩ : Ru)]).length ≤ 3 ∧ f5h (l ++ [(⟨(l.length : Int), ops⟩ : Ru)]) ∧ q2 ≤ q + 40 * (l ++ [(⟨(l.length : Int), ops⟩ : Ru)]).length := by
 rw [List.length_append]
 refine ⟨by show l.length + 1 ≤ 3; omega, fun i r hr => ?_, by show q2 ≤ q + 40 * (l.length + 1); omega⟩
 rcases Nat.lt_or_ge i l.length with hi | hi
 ·rw [List.getElem?_append_left hi] at hr; exact h i r hr
 ·rw [List.getElem?_append_right hi] at hr
  cases e : i - l.length with
  | zero => rw [e] at hr; cases hr; exact ⟨by show (l.length : Int) = (i : Int); omega, ho⟩
  | succ n => rw [e] at hr; simp at hr
variable {l : List Ap}
theorem f4t {rs : List Ru} {p0 q q1 : Nat} (h : ∀ a ∈ l, d1i a) (ha : d1i ⟨rs⟩) (hl : l.length < 4) (h3 : q ≤ p0 + 120 * l.length) (h4 : q1 ≤ q + 40 * rs.length) (hr : rs.length ≤ 3) : (l ++ [(⟨rs⟩ : Ap)]).length ≤ 4 ∧ (∀ a ∈ l ++ [(⟨rs⟩ : Ap)], d1i a) ∧ q1 ≤ p0 + 120 * (l ++ [(⟨rs⟩ : Ap)]).length := by
 rw [List.length_append]
 refine ⟨by show l.length + 1 ≤ 4; omega, fun a hm => ?_, by show q1 ≤ p0 + 120 * (l.length + 1); omega⟩
 rcases List.mem_append.1 hm with hm | hm
 ·exact h a hm
 ·rw [List.mem_singleton.1 hm]; exact ha
theorem e6p (h : a5r l) : b9i ⟨0, l, a8z 3, [], hb0, []⟩ := ⟨h, rfl, fun n hn => by
 obtain ⟨i, hi, rfl⟩ := List.mem_map.1 hn
 have := List.mem_range.1 hi
 exact f1m _ (by omega), Nat.zero_le _, fun x h => (by cases h), e2k, Nat.zero_le _⟩
variable {p c : Nat}
theorem e6q (h : a5r l) (hp : p ≤ c) : smOk ⟨⟨0, l, a8z 3, [], hb0, []⟩, [], p⟩ c := ⟨e6p h, Nat.zero_le _, hp⟩
end
section
theorem c0a (r : List Wo) (hr : r.length ≤ 40) : Meth Tryz.prog 312 1 [0] [.ref 0 0, v7v true ([] : List Wo)] [(0, (0, .row 79 11 ((r).map (u3u true))))] (.ref 0 0) [(0, (0, .row 79 11 ((r).map (u3u true))))] := by
 refine mX Tryz.f312 [.ref 0 0] 1 2 fun γ => ?_
 refine dv 6 fun K K' => ?_
 refine x5x (ι := Nat) (fun i γ1 => [(0, .ref 0 (γ 0)), (5, pI (i : Int))]) (fun i γ1 => [(0, ((γ 0), .row 79 11 ((r).map (u3u true)))), (1, ((γ1 1), .dead)), (2, ((γ1 2), .dead))]) (fun i => i = 0) (fun i => i) (x8x 1 rfl Cov.nil) HE.nil 0 rfl [0, _, _] x6x x4x rfl fun i γ1 hi => ?_
 subst hi
 refine dv 7 fun K K' => ?_
 refine f4w rfl rfl (fun hg3 => ?_) (fun hg3 => ?_)
 ·(simp at hg3; done)
 try simp at hg3
 refine dv 3 ?_
 refine a0f rfl (fun hc5 => ?_) (fun hc5 => ?_)
 ·(simp at hc5; done)
 try simp at hc5
 refine dv 5 ?_
 exact ⟨[γ 0], rfl, rfl, x4x⟩
theorem c0b (r m : List Wo) (hr : r.length ≤ 40) : Meth Tryz.prog 312 1 [] [.ref 0 0, v7v true m] [(0, (0, .row 79 11 ((r).map (u3u true))))] (.ref 0 0) [(0, (0, .row 79 11 ((b0u r m).map (u3u true))))] := by
 refine mX Tryz.f312 [.ref 0 0] 1 2 fun γ => ?_
 refine dv 6 fun K K' => ?_
 refine x5x (ι := Nat) (fun i γ1 => [(0, .ref 0 (γ1 0)), (5, pI (i : Int))]) (fun i γ1 => [(0, ((γ1 0), .row 79 11 ((r ++ m.take i).map (u3u true)))), (1, ((γ1 1), .dead)), (2, ((γ1 2), .dead))]) (fun i => i ≤ m.length ∧ r.length + i ≤ 40) (fun i => m.length - i) (x8x 1 rfl Cov.nil) HE.nil 0 ⟨Nat.zero_le _, hr⟩ [_, _, _] x6x (HE.row rfl (by simp) (HE.kill rfl (HE.kill rfl HE.nil))) rfl fun i γ1 hi => ?_
 obtain ⟨h1, h2⟩ := hi
 have hl : (r ++ m.take i).length = r.length + i := by simp; omega
 refine dc 7 (fun K K' => aS ?_ ?_)<;>intro h<;>try simp at h
 ·refine dv 9 ?_
  exact ⟨[_], rfl, rfl, HE.row rfl (by rw [d5u hr h1 h2 (by omega)]) HE.nil⟩
 refine dv 1 ?_
 refine a4i (n := r.length + i) rfl p5p rfl rfl (by rw [List.length_map]; exact hl) ?_
 refine dc 2 (aS ?_ ?_)<;>intro h<;>try simp at h
 ·refine dv 5 ?_
  exact ⟨[_], rfl, rfl, HE.row rfl (by rw [d5u hr h1 h2 (by omega)]) HE.nil⟩
 obtain ⟨w, hw⟩ := gE m i
 refine dv 9 fun K K' => ?_
 refine y5y (id := 1) p5p rfl v2v rfl rfl rfl rfl rfl rfl ?_
 refine y6y (zs := (r ++ m.take i ++ [w]).map (u3u true)) rfl rfl p5p rfl v2v rfl rfl rfl rfl (by rfl) (u0u (u3u true) _ w) (by (simp only [a0b, r5r, s1s, s3s, a0t, a3b, T79]; omega)) ?_
 refine dv 3 ?_
 refine x7x (b := 1) rfl rfl (by omega) (dv 1 ?_)
 exact ⟨i + 1, ⟨⟨by omega, by omega⟩, by omega⟩, [_, _, _], x6x, x6x, (HE.row rfl (by rw [← e3k hw (by rw [hl]; omega)]) (HE.kill rfl (HE.kill rfl HE.nil))), x4x, rfl⟩
theorem a0q (r m : List Wo) (hr : r.length ≤ 40) : Meth Tryz.prog 312 1 (kpS m) [.ref 0 0, v7v true m] [(0, (0, .row 79 11 ((r).map (u3u true))))] (.ref 0 0) [(0, (0, .row 79 11 ((b0u r m).map (u3u true))))] := by
 cases m with
 | nil =>
  have e : b0u r [] = r := by simp [b0u]
  rw [e]; exact c0a r hr
 | cons x l => exact c0b r (x :: l) hr
end
section
theorem c3f (c : Bool) (n : Nd) : a0j Tryz.prog 54 [.agg (u1u c n)] (.agg (u1u true (a6z n))) := by
 refine pX Tryz.f54 [.agg (u1u true (a6z n))] 6 ?_
 refine dv 1 ?_
 refine y3y (id := 0) rfl rfl rfl (x3x (id := 1) u6u q4q rfl (dv 3 fun K K' => ?_))
 refine x0x rfl rfl rfl (w0w ..) (dc 1 (aI ?_ ?_))<;>intro hc2<;>try simp at hc2
 ·have fX : ¬ y0y n := a0p (by simpa using hc2)
  refine dv 1 ?_
  refine rlB u6u q4q ?_
  refine dv 2 ?_
  (rw [d6u fX]; exact ⟨_, _, rfl, e1r⟩)
 have fK : y0y n := a0o.1 (by simpa using hc2)
 have fS := fK.1
 have fB := w2w fS
 have fb := b8v fS
 refine dv 3 ?_
 refine rlM [3, 4, 5] [_, _, _] (a5u c n fb.1 fb.2.1 fb.2.2.1 fb.2.2.2.1) rfl rfl rfl ?_
 refine x3x (id := 2) u6u q4q rfl (dv 8 ?_)
 (rw [b8t fK]; exact ⟨_, _, rfl, b5r (n := ({ a1j n with up := false } : Nd)) rfl rfl rfl⟩)
theorem c3g (c : Bool) (n : Nd) : a0j Tryz.prog 58 [.agg (u1u c n)] (.agg (u1u true (a4g n))) := by
 refine pX Tryz.f58 [.agg (u1u true (a4g n))] 6 ?_
 refine dv 1 ?_
 refine y3y (id := 0) rfl rfl rfl (x3x (id := 1) u6u q4q rfl (dv 3 fun K K' => ?_))
 refine x0x rfl rfl rfl (w0w ..) (dc 1 (aI ?_ ?_))<;>intro hc2<;>try simp at hc2
 ·have fX : ¬ y0y n := a0p (by simpa using hc2)
  refine dv 1 ?_
  refine rlB u6u q4q ?_
  refine dv 2 ?_
  (rw [d6v fX]; exact ⟨_, _, rfl, e1r⟩)
 have fK : y0y n := a0o.1 (by simpa using hc2)
 have fS := fK.1
 have fB := w2w fS
 have fb := b8v fS
 refine dc 6 (fun K K' => aS ?_ ?_)<;>intro j<;>try simp at j
 ·refine dv 5 ?_
  have fU : n.up = true ∨ 9999 ≤ n.inc := by (simp_all; done)
  refine dv 2 ?_
  refine rlM [3, 4, 5] [_, _, _] (y2y c n fb) rfl rfl rfl ?_
  refine dv 2 ?_
  (rw [b3s fK fU]; exact ⟨_, _, rfl, b5r rfl rfl rfl⟩)
 refine dv 2 ?_
 refine x0x rfl rfl rfl (z9z ..) (dc 2 (aI ?_ ?_))<;>intro hc5<;>try simp at hc5
 ·have fU : n.up = true ∨ 9999 ≤ n.inc := .inr hc5
  refine dv 2 ?_
  refine rlM [3, 4, 5] [_, _, _] (y2y c n fb) rfl rfl rfl ?_
  refine dv 2 ?_
  (rw [b3s fK fU]; exact ⟨_, _, rfl, b5r rfl rfl rfl⟩)
 have fU : ¬ (n.up = true ∨ 9999 ≤ n.inc) := by rintro (h | h) <;> first | omega | (simp_all; done)
 refine dv 3 ?_
 refine rlM [3, 4, 5] [_, _, _] (a5u c n fb.1 fb.2.1 fb.2.2.1 fb.2.2.2.1) rfl rfl rfl ?_
 refine x3x (id := 2) u6u q4q rfl (dv 7 ?_)
 refine a0g (.int .i64 (n.inc + 1)) rfl rfl rfl (a8v rfl rfl (by have := fS.1.2.1; omega) (by have := fS.1.2.1; omega)) ?_
 refine dv 9 ?_
 (rw [b8u fK fU]; exact ⟨_, _, rfl, b5r (n := ({ a1j n with up := true, inc := n.inc + 1, version := 1 } : Nd)) rfl rfl rfl⟩)
end
section
theorem b3h (c : Bool) (n : Nd) : a0j Tryz.prog 49 [.agg (u1u c n)] (v7v true (a5h n)) := by
 refine pX Tryz.f49 [v7v true (a5h n)] 8 ?_
 refine dv 1 ?_
 refine y3y (id := 0) rfl rfl rfl (dv 2 ?_)
 refine y1y (id := 1) p5p rfl v2v rfl (dv 4 fun K K' => ?_)
 refine x0x rfl rfl rfl (w0w ..) (dc 2 (aS ?_ ?_))<;>intro hg2<;>try simp at hg2
 ·have fX : ¬ (y0y n ∧ n.up = true) := fun h => a0p (by simpa using hg2) h.1
  refine dv 8 ?_
  (rw [b8w fX]; exact a4j (l := ([] : List Wo)) rfl rfl (fun _ => rfl) rfl)
 have fK : y0y n := a0o.1 (by simpa using hg2)
 have fS := fK.1
 have fB := w2w fS
 have fV := fS.2.2.2.2.2.1
 refine dc 4 (aI ?_ ?_)<;>intro hc3<;>try simp at hc3
 ·have fX : ¬ (y0y n ∧ n.up = true) := by (intro h; simp_all; done)
  refine dv 4 ?_
  (rw [b8w fX]; exact a4j (l := ([] : List Wo)) rfl rfl (fun _ => rfl) rfl)
 have fU : n.up = true := hc3
 refine dv 5 fun K K' => ?_
 refine x5x (ι := Nat) (fun i γ1 => [(3, .ref 1 (γ1 1)), (4, pI (i : Int))]) (fun i γ1 => [(1, ((γ1 1), .row 79 11 ((a2y n i).map (u3u true)))), (2, ((γ1 2), .dead)), (3, ((γ1 3), .dead))]) (fun i => i ≤ 3) (fun i => 3 - i) (x8x 1 rfl Cov.nil) (a1p [0, 4, 5, 6, 7] rfl) 0 (by omega) [0, _, _, _] x6x (HE.row rfl (by rfl) (HE.kill rfl (HE.kill rfl HE.nil))) rfl fun i γ1 hi => ?_
 refine dc 4 (fun K K' => aI ?_ ?_)<;>intro j<;>try simp at j
 ·refine dc 8 (fun K K' => aS ?_ ?_)<;>intro hc8<;>try simp at hc8
  ·have hto : (i : Int) = n.id := hc8
   refine dv 1 ?_
   skip
   refine dv 2 ?_
   refine u7u rfl rfl rfl (dv 1 ?_)
   exact ⟨i + 1, ⟨by omega, by omega⟩, [0, _, _, _], (x8x 3 rfl (Cov.cons' (t := 4) rfl (by rw [x9x (by omega) (by omega)]; rfl) Cov.nil)), x6x, (HE.row rfl (by rw [b7m hto]) (HE.kill rfl (HE.kill rfl HE.nil))), x4x, rfl⟩
  have hto : ¬ (i : Int) = n.id := hc8
  have htl := c1z fS (i : Int)
  have htn := b2i n i
  refine dv 13 ?_
  refine x0x rfl rfl rfl (a7y c n i (by omega) fS.2.2.2.2.2.2.1 (by have := a7o fS; omega) (by omega)) ?_
  refine rlB v2v a6n ?_
  refine y5y (id := 2) p5p rfl v2v rfl rfl rfl rfl rfl rfl ?_
  refine y6y (zs := (a2y n i).map (u3u true) ++ [[pI (a3s n (i : Int)).kind, pI (a3s n (i : Int)).from', pI (a3s n (i : Int)).to, pI (a3s n (i : Int)).inc, pI (a3s n (i : Int)).version, pI (a3s n (i : Int)).round, pI (a3s n (i : Int)).g, .pv (.slice none 0 0), .pv (.slice none 0 0), a0m true (a1l n (i : Int)), .pv (.slice none 0 0)]]) rfl rfl p5p rfl v2v rfl rfl rfl rfl rfl rfl (by (simp only [a0b, r5r, s1s, s3s, a0t, a3b, T79] at *; omega)) ?_
  refine dv 1 ?_
  refine e7p 1 rfl (LeLs.snoc (x' := u3u true (a3s n (i : Int))) (.same (.same (.same (.same (.same (.same (.same (.le rfl .nil rfl (.le rfl .nil rfl (.same (.le rfl .nil rfl .nil))))))))))) _) ?_
  refine dv 2 ?_
  refine u7u rfl rfl rfl (dv 1 ?_)
  exact ⟨i + 1, ⟨by omega, by omega⟩, [0, _, _, _], (x8x 3 rfl (Cov.cons' (t := 4) rfl (by rw [x9x (by omega) (by omega)]; rfl) Cov.nil)), x6x, (HE.row rfl (by (rw [b7l hto, List.map_append]; rfl)) (HE.kill rfl (HE.kill rfl HE.nil))), x4x, rfl⟩
 obtain rfl : i = 3 := by omega
 have htn := b2i n 3
 refine dc 6 (fun K K' => aS ?_ ?_)<;>intro hc10<;>try simp at hc10
 ·have h0 : n.id = 0 := hc10
  refine dv 1 ?_
  skip
  refine dv 4 ?_
  (rw [c7a ⟨fK, fU⟩ h0]; exact a4j rfl rfl (fun _ => rfl) rfl)
 have h0 : ¬ n.id = 0 := hc10
 refine dv 6 ?_
 refine y1y (id := 4) a0c rfl v9v rfl (dv 2 ?_)
 refine a1n w5w (zs := (n.outs).map q5q) rfl rfl a0c rfl v9v rfl rfl rfl (z8z (fun _ => rfl) _) rfl (by (simp only [a0b, r5r, s1s, s3s, a0t, a3b, T141] at *; omega)) (Le.ow_map _ (fun _ => rfl) (fun _ => rfl)) ?_
 refine rlB v2v a6n ?_
 refine y5y (id := 6) p5p rfl v2v rfl rfl rfl rfl rfl rfl ?_
 refine y6y (zs := (a2y n 3).map (u3u true) ++ [[pI (a8i n).kind, pI (a8i n).from', pI (a8i n).to, pI (a8i n).inc, pI (a8i n).version, pI (a8i n).round, pI (a8i n).g, .pv (.slice none 0 0), .pv (.slice none 0 0), .pv (.slice none 0 0), r8r true n.outs]]) rfl rfl p5p rfl v2v rfl rfl rfl rfl rfl rfl (by (simp only [a0b, r5r, s1s, s3s, a0t, a3b, T79] at *; omega)) ?_
 refine dv 1 ?_
 (refine e7p 1 rfl (LeLs.snoc (x' := u3u true (a8i n)) (.same (.same (.same (.same (.same (.same (.same (.le rfl .nil rfl (.le rfl .nil rfl (.le rfl .nil rfl (.same .nil))))))))))) _) ?_; refine b2d 1 (xs' := (a2y n 3 ++ [a8i n]).map (u3u true)) rfl (by rw [List.map_append]; rfl) ?_)
 refine dv 4 ?_
 (rw [c7b ⟨fK, fU⟩ h0]; exact a4j rfl rfl (fun _ => rfl) rfl)
end
section
theorem c4h (W : Tw) (ek en ep ew : Int) (eb : Bool) (hW : b9i W) : MethE Tryz.prog 309 2 [.agg [pI W.time, a4w true W.apps, .ref 0 0, .ref 1 0, pI W.hub.round, v7v true W.hub.ones, v7v true W.hub.twos, v7v true W.hub.outs, r8r true W.sink], .agg [pI ek, pI en, pI ep, pI ew, .pv (.bool eb)]] [(0, (0, .row 65 13 ((W.nodes).map (u1u true)))), (1, (0, .row 79 11 ((W.radio).map (u3u true))))] (ι := Tw × Bool) (fun S' => b9i S'.1 ∧ (S'.2 = false → S'.1.radio = W.radio)) (fun S' => kpB S'.2) (fun S' => .tup [.agg [pI S'.1.time, a4w true S'.1.apps, .ref 0 0, .ref 1 0, pI S'.1.hub.round, v7v true S'.1.hub.ones, v7v true S'.1.hub.twos, v7v true S'.1.hub.outs, r8r true S'.1.sink], .pv (.bool (S'.2))]) (fun S' => [(0, (0, .row 65 13 ((S'.1.nodes).map (u1u true)))), (1, (0, .row 79 11 ((S'.1.radio).map (u3u true))))]) := by
 refine mE (ι := Tw × Bool) Tryz.f309 (fun S' => [.agg [pI S'.1.time, a4w true S'.1.apps, .ref 0 0, .ref 1 0, pI S'.1.hub.round, v7v true S'.1.hub.ones, v7v true S'.1.hub.twos, v7v true S'.1.hub.outs, r8r true S'.1.sink], .pv (.bool (S'.2))]) 2 6 fun γ => ?_
 refine dv 1 ?_
 refine y3y (id := 2) rfl rfl rfl (y3y (id := 3) rfl rfl rfl (x3x (id := 4) b5e b8j rfl (dv 5 fun K K' => ?_)))
 refine x0x rfl rfl rfl (y7y ..) (dc 1 (aI ?_ ?_))<;>intro hc2<;>try simp at hc2
 ·refine dv 5 ?_
  exact ⟨(W, false), ⟨hW, (fun _ => rfl)⟩, [γ 0, γ 1], rfl, rfl, x4x⟩
 have hen : 0 ≤ en ∧ en ≤ 2 := hc2
 obtain ⟨k, rfl⟩ : ∃ k : Nat, en = (k : Int) := ⟨en.toNat, by omega⟩
 obtain ⟨n, hnd, hnI⟩ := b3f hW (i := k) (by omega)
 have hA := hW.1
 have hr40 := hW.2.2.2.1
 refine dv 6 ?_
 refine z0z (j := k) rfl rfl a6l rfl u6u rfl rfl (z2z hnd) ?_
 refine s6s rfl u6u rfl (by assumption) rfl rfl ?_
 refine x3x (id := 5) u6u q4q rfl (dc 8 (fun K K' => aI ?_ ?_))<;>intro o<;>try simp at o
 ·refine dv 2 ?_
  refine x0x rfl rfl rfl (c3g true n) (x3x (id := 6) u6u q4q rfl (dv 7 ?_))
  refine z0z (j := k) rfl rfl a6l rfl u6u rfl rfl (z2z hnd) ?_
  refine v5v (el' := a4g n) rfl rfl u6u rfl rfl rfl hnd rfl (q7q rfl) rfl rfl ?_
  refine dv 10 ?_
  exact ⟨({ W with nodes := W.nodes.set k (a4g n) }, decide ((a4g n).inc > n.inc)), ⟨a5l hW (f4m hnI), (fun _ => rfl)⟩, [γ 0, γ 1], (d2z γ _ gl rfl rfl), rfl, x4x⟩
 refine dc 5 (aI ?_ ?_)<;>intro o<;>try simp at o
 ·refine dv 5 ?_
  exact ⟨(W, false), ⟨hW, (fun _ => rfl)⟩, [γ 0, γ 1], rfl, rfl, x4x⟩
 refine dc 5 (aI ?_ ?_)<;>intro o<;>try simp at o
 ·refine s0s fun B X0 w0 => ?_
  refine txR 5 rfl rfl (dv 5 ?_)
  refine txM [] [] (c2y W.apps n ep hnI hA) rfl rfl rfl rfl fun j hj => ?_
  refine txR 6 rfl rfl (dv 3 ?_)
  refine x3x (id := 7) u6u q4q rfl (dv 2 ?_)
  refine z6z rfl (dv 6 ?_)
  refine z0z (j := k) rfl rfl a6l rfl u6u rfl rfl (z2z hnd) ?_
  refine v5v (el' := j.1) rfl rfl u6u rfl rfl rfl hnd rfl (q7q rfl) rfl rfl ?_
  refine dv 6 ?_
  exact ⟨({ W with nodes := W.nodes.set k j.1 }, j.2), ⟨a5l hW hj, (fun _ => rfl)⟩, [γ 0, γ 1], (d2z γ _ gl rfl rfl), rfl, x4x⟩
 refine dc 5 (aI ?_ ?_)<;>intro o<;>try simp at o
 ·refine dv 4 ?_
  refine x0x rfl rfl rfl (b3h true n) ?_
  refine rlM [1] [_] (a0q W.radio (a5h n) hr40) rfl rfl rfl ?_
  refine dv 7 ?_
  exact ⟨({ W with radio := b0u W.radio (a5h n) }, true), ⟨b3g hW (e5w hnI.1), (fun h => by cases h)⟩, [γ 0, _], rfl, rfl, x4x⟩
 refine dv 7 ?_
 refine x0x rfl rfl rfl (c3f true n) ?_
 refine z0z (j := k) rfl rfl a6l rfl u6u rfl rfl (z2z hnd) ?_
 refine v5v (el' := a6z n) rfl rfl u6u rfl rfl rfl hnd rfl (q7q rfl) rfl rfl ?_
 refine dc 5 (fun K K' => aS ?_ ?_)<;>intro o<;>try simp at o
 ·refine dv 1 ?_
  skip
  refine dv 5 ?_
  exact ⟨({ W with nodes := W.nodes.set k (a6z n) }, true), ⟨a5l hW (e8h hnI), (fun h => by cases h)⟩, [γ 0, γ 1], rfl, rfl, x4x⟩
 obtain rfl : k = 0 := by omega
 refine dv 1 ?_
 refine rlB a6d b5f ?_
 refine dv 1 ?_
 refine a0n rfl rfl a6d rfl rfl rfl rfl (r9r rfl) rfl ?_
 refine dv 0 ?_
 refine e7o 2 rfl (.same (.same (.same (.same (.same (.le (b := v7v true ([] : List Wo)) rfl .nil rfl (.le (b := v7v true ([] : List Wo)) rfl .nil rfl (.le (b := v7v true ([] : List Wo)) rfl .nil rfl (LeCs.refl _))))))))) ?_
 refine dv 5 ?_
 exact ⟨({ W with nodes := W.nodes.set 0 (a6z n), hub := hb0 }, true), ⟨d0z (a5l hW (e8h hnI)) e2k, (fun h => by cases h)⟩, [γ 0, γ 1], rfl, rfl, x4x⟩
end
section
theorem c3h (W : Tw) (ek en ep ew : Int) (eb : Bool) (hW : b9i W) : MethE Tryz.prog 310 2 [.agg [pI W.time, a4w true W.apps, .ref 0 0, .ref 1 0, pI W.hub.round, v7v true W.hub.ones, v7v true W.hub.twos, v7v true W.hub.outs, r8r true W.sink], .agg [pI ek, pI en, pI ep, pI ew, .pv (.bool eb)]] [(0, (0, .row 65 13 ((W.nodes).map (u1u true)))), (1, (0, .row 79 11 ((W.radio).map (u3u true))))] (ι := Tw × Bool) (fun S' => b9i S'.1 ∧ (S'.2 = false → S'.1.radio = W.radio)) (fun S' => kpB S'.2) (fun S' => .tup [.agg [pI S'.1.time, a4w true S'.1.apps, .ref 0 0, .ref 1 0, pI S'.1.hub.round, v7v true S'.1.hub.ones, v7v true S'.1.hub.twos, v7v true S'.1.hub.outs, r8r true S'.1.sink], .pv (.bool (S'.2))]) (fun S' => [(0, (0, .row 65 13 ((S'.1.nodes).map (u1u true)))), (1, (0, .row 79 11 ((S'.1.radio).map (u3u true))))]) := by
 refine mE (ι := Tw × Bool) Tryz.f310 (fun S' => [.agg [pI S'.1.time, a4w true S'.1.apps, .ref 0 0, .ref 1 0, pI S'.1.hub.round, v7v true S'.1.hub.ones, v7v true S'.1.hub.twos, v7v true S'.1.hub.outs, r8r true S'.1.sink], .pv (.bool (S'.2))]) 2 11 fun γ => ?_
 have hr40 := hW.2.2.2.1
 refine dv 1 ?_
 refine y3y (id := 2) rfl rfl rfl (y3y (id := 3) rfl rfl rfl (x3x (id := 4) b5e b8j rfl (dv 7 fun K K' => ?_)))
 refine a4i (n := W.radio.length) rfl p5p rfl rfl (List.length_map _) ?_
 refine a0g (.int .i64 ((W.radio.length : Int) - 1)) rfl rfl rfl (a8v rfl (by omega) (by omega) (by omega)) ?_
 refine x0x rfl rfl rfl (y7y ..) (dc 1 (aI ?_ ?_))<;>intro hc2<;>try simp at hc2
 ·refine dv 5 ?_
  exact ⟨(W, false), ⟨hW, (fun _ => rfl)⟩, [γ 0, γ 1], rfl, rfl, x4x⟩
 have hr40 := hW.2.2.2.1
 have hew : 0 ≤ ew ∧ ew ≤ (W.radio.length : Int) - 1 := hc2
 obtain ⟨j, rfl⟩ : ∃ j : Nat, ew = (j : Int) := ⟨ew.toNat, by omega⟩
 have hjl : j < W.radio.length := by omega
 obtain ⟨x, hx⟩ := gE W.radio j
 have hxr := hW.2.2.2.2.1 x (List.mem_of_getElem? hx)
 obtain ⟨n0, h0, h0I⟩ := b3f hW (i := 0) (by omega)
 have hHb := hW.2.2.2.2.2.1
 refine dv 6 ?_
 refine z0z (j := j) rfl rfl p5p rfl v2v rfl rfl hjl ?_
 refine s6s rfl v2v rfl (by assumption) rfl rfl ?_
 refine x3x (id := 5) v2v a6n rfl (dc 7 (fun K K' => aS ?_ ?_))<;>intro o<;>try simp at o
 ·refine dv 5 ?_
  refine y1y (id := 6) p5p rfl v2v rfl (dv 4 ?_)
  refine d4a w5w rfl p5p rfl v2v rfl rfl rfl rfl (by omega) (by omega) (by (simp only [a0b]; omega)) ?_
  refine b3v (f := u3u true) (l := ([] : List Wo)) (l2 := W.radio) (l' := W.radio.take j) rfl rfl p5p rfl v2v rfl rfl rfl rfl (z8z (fun _ => rfl) _) (by (simp; done)) (by simp only [a0t, b2s, r5r, T79]; omega) ?_
  refine dv 4 ?_
  refine a0g (.int .i64 ((j + 1 : Nat) : Int)) rfl rfl rfl (a8v rfl (by omega) (by omega) (by omega)) ?_
  refine d4a w5w rfl p5p rfl v2v rfl rfl rfl rfl (by omega) (by (simp only [a0b]; omega)) (by omega) ?_
  refine b3v (f := u3u true) (l := W.radio.take j) (l2 := W.radio) (l' := (W.radio.take j ++ W.radio.drop (j + 1))) rfl rfl p5p rfl v2v rfl rfl rfl rfl (z8z (fun _ => rfl) _) (by (simp; done)) (by simp only [a0t, b2s, r5r, T79]; omega) ?_
  refine dv 3 fun K K' => ?_
  (refine e1x 2 6 1 rfl rfl rfl rfl rfl rfl rfl ?_; obtain ⟨r, er, hr1, hr2⟩ : ∃ r, (W.radio.take j ++ W.radio.drop (j + 1)) = r ∧ r.length ≤ 40 ∧ ∀ q ∈ r, c7p q := ⟨_, rfl, e3l hW, e3m hW⟩; rw [er])
  refine dc 4 (aI ?_ ?_)<;>intro o<;>try simp at o
  ·refine dv 5 ?_
   exact ⟨({ W with radio := r }, true), ⟨a6b hW hr1 hr2, (fun h => by cases h)⟩, [γ 0, _], rfl, rfl, x4x⟩
  refine dv 2 ?_
  refine y1y (id := 9) p5p rfl v2v rfl (dv 2 fun K K' => ?_)
  refine q8q (ι := Bool) (fun b γ3 => [(73, .pv (.bool (b)))]) (fun b γ3 => []) (fun b => True) (r2r [2, 4, 6] rfl) (a1p [0, 1, 2, 3, 4, 5, 6, 7, 8, 9, 10, 11, 12] rfl) ?_ fun b γ3 hi => ?_
  ·refine dc 5 (aS ?_ ?_)<;>intro o<;>try simp at o
   ·refine dv 13 ?_
    exact ⟨_, trivial, [], x6x, x6x, x4x, x4x, rfl⟩
   refine dc 4 (aS ?_ ?_)<;>intro o<;>try simp at o
   ·refine dv 9 ?_
    exact ⟨_, trivial, [], x6x, x6x, x4x, x4x, rfl⟩
   refine dc 5 (aS ?_ ?_)<;>intro o<;>try simp at o
   ·refine dv 4 ?_
    exact ⟨_, trivial, [], x6x, x6x, x4x, x4x, rfl⟩
   refine dv 5 ?_
   exact ⟨_, trivial, [], x6x, x6x, x4x, x4x, rfl⟩
  ·try dsimp only [b2t, b2u]
   refine dc 0 (aS ?_ ?_)<;>intro o<;>try simp at o
   ·obtain ⟨q, hq⟩ : ∃ q : Nat, x.to = (q : Int) := ⟨x.to.toNat, by have := hxr.1; omega⟩
    obtain ⟨n, hnd, hnI⟩ := b3f hW (i := q) (by have := hxr.1; omega)
    refine dv 4 ?_
    refine y9y (out := pI x.to) rfl r3r rfl rfl ?_
    rw [hq]
    refine z0z (j := q) rfl rfl a6l rfl u6u rfl rfl (z2z hnd) ?_
    refine s6s rfl u6u rfl (by assumption) rfl rfl ?_
    refine dv 1 ?_
    refine x0x rfl rfl rfl (a8c true n x) (dv 3 ?_)
    refine x3x (id := 12) u6u q4q rfl (dv 6 ?_)
    refine y9y (out := pI x.to) rfl r3r rfl rfl ?_
    rw [hq]
    refine dv 1 ?_
    refine z0z (j := q) rfl rfl a6l rfl u6u rfl rfl (z2z hnd) ?_
    refine v5v (el' := (w3w n x).1) rfl rfl u6u rfl rfl rfl hnd rfl (q7q rfl) rfl rfl ?_
    refine dv 7 ?_
    refine rlM [1] [_] (a0q r (w3w n x).2 hr1) rfl rfl rfl ?_
    refine dv 7 ?_
    exact ⟨({ W with nodes := W.nodes.set q (w3w n x).1, radio := b0u r (w3w n x).2 }, true), ⟨b3g (W := { W with nodes := _, radio := r }) (a6b (a5l hW (e3b hnI x)) hr1 hr2) (c7q hnI.1 x), (fun h => by cases h)⟩, [γ 0, _], rfl, rfl, x4x⟩
   refine dv 2 ?_
   refine y9y (out := .agg (a7d true W.hub)) rfl a6d rfl rfl ?_
   refine dv 2 ?_
   refine z0z (j := 0) rfl rfl a6l rfl u6u rfl rfl (z2z h0) (s6s rfl u6u rfl (by assumption) rfl rfl ?_)
   refine dv 1 ?_
   refine x0x rfl rfl rfl (a9d true W.hub n0 x) (dv 4 ?_)
   refine x3x (id := 10) a6d b5f rfl (x3x (id := 11) u6u q4q rfl (dv 6 ?_))
   refine a0n rfl rfl a6d rfl rfl rfl rfl (r9r rfl) rfl ?_
   refine dv 4 ?_
   refine z0z (j := 0) rfl rfl a6l rfl u6u rfl rfl (z2z h0) ?_
   refine v5v (el' := (v1v W.hub n0 x).2.1) rfl rfl u6u rfl rfl rfl h0 rfl (q7q rfl) rfl rfl ?_
   refine dv 7 ?_
   refine rlM [1] [_] (a0q r (v1v W.hub n0 x).2.2 hr1) rfl rfl rfl ?_
   refine dv 7 ?_
   exact ⟨({ W with nodes := W.nodes.set 0 (v1v W.hub n0 x).2.1, radio := b0u r (v1v W.hub n0 x).2.2, hub := (v1v W.hub n0 x).1 }, true), ⟨b3g (W := { W with nodes := _, radio := r, hub := _ }) (a6b (d0z (a5l hW (c7t h0I hHb x)) (b2p h0I.1 hHb x)) hr1 hr2) (b9h W.hub n0 x), (fun h => by cases h)⟩, [γ 0, _], rfl, rfl, x4x⟩
 refine dc 4 (aS ?_ ?_)<;>intro o<;>try simp at o
 ·refine dv 2 fun K K' => ?_
  (obtain ⟨r, er, hr1, hr2⟩ : ∃ r, W.radio = r ∧ r.length ≤ 40 ∧ ∀ q ∈ r, c7p q := ⟨_, rfl, hW.2.2.2.1, hW.2.2.2.2.1⟩; rw [er])
  refine dc 4 (aI ?_ ?_)<;>intro o<;>try simp at o
  ·refine dv 5 ?_
   exact ⟨({ W with radio := r }, true), ⟨a6b hW hr1 hr2, (fun h => by cases h)⟩, [γ 0, _], rfl, rfl, x4x⟩
  refine dv 2 ?_
  refine y1y (id := 9) p5p rfl v2v rfl (dv 2 fun K K' => ?_)
  refine q8q (ι := Bool) (fun b γ2 => [(73, .pv (.bool (b)))]) (fun b γ2 => []) (fun b => True) (r2r [2, 4, 6] rfl) (a1p [0, 1, 2, 3, 4, 5, 6, 7, 8, 9, 10, 11, 12] rfl) ?_ fun b γ2 hi => ?_
  ·refine dc 5 (aS ?_ ?_)<;>intro o<;>try simp at o
   ·refine dv 13 ?_
    exact ⟨_, trivial, [], x6x, x6x, x4x, x4x, rfl⟩
   refine dc 4 (aS ?_ ?_)<;>intro o<;>try simp at o
   ·refine dv 9 ?_
    exact ⟨_, trivial, [], x6x, x6x, x4x, x4x, rfl⟩
   refine dc 5 (aS ?_ ?_)<;>intro o<;>try simp at o
   ·refine dv 4 ?_
    exact ⟨_, trivial, [], x6x, x6x, x4x, x4x, rfl⟩
   refine dv 5 ?_
   exact ⟨_, trivial, [], x6x, x6x, x4x, x4x, rfl⟩
  ·try dsimp only [b2t, b2u]
   refine dc 0 (aS ?_ ?_)<;>intro o<;>try simp at o
   ·obtain ⟨q, hq⟩ : ∃ q : Nat, x.to = (q : Int) := ⟨x.to.toNat, by have := hxr.1; omega⟩
    obtain ⟨n, hnd, hnI⟩ := b3f hW (i := q) (by have := hxr.1; omega)
    refine dv 4 ?_
    refine y9y (out := pI x.to) rfl r3r rfl rfl ?_
    rw [hq]
    refine z0z (j := q) rfl rfl a6l rfl u6u rfl rfl (z2z hnd) ?_
    refine s6s rfl u6u rfl (by assumption) rfl rfl ?_
    refine dv 1 ?_
    refine x0x rfl rfl rfl (a8c true n x) (dv 3 ?_)
    refine x3x (id := 12) u6u q4q rfl (dv 6 ?_)
    refine y9y (out := pI x.to) rfl r3r rfl rfl ?_
    rw [hq]
    refine dv 1 ?_
    refine z0z (j := q) rfl rfl a6l rfl u6u rfl rfl (z2z hnd) ?_
    refine v5v (el' := (w3w n x).1) rfl rfl u6u rfl rfl rfl hnd rfl (q7q rfl) rfl rfl ?_
    refine dv 7 ?_
    refine rlM [1] [_] (a0q r (w3w n x).2 hr1) rfl rfl rfl ?_
    refine dv 7 ?_
    exact ⟨({ W with nodes := W.nodes.set q (w3w n x).1, radio := b0u r (w3w n x).2 }, true), ⟨b3g (W := { W with nodes := _, radio := r }) (a6b (a5l hW (e3b hnI x)) hr1 hr2) (c7q hnI.1 x), (fun h => by cases h)⟩, [γ 0, _], rfl, rfl, x4x⟩
   refine dv 2 ?_
   refine y9y (out := .agg (a7d true W.hub)) rfl a6d rfl rfl ?_
   refine dv 2 ?_
   refine z0z (j := 0) rfl rfl a6l rfl u6u rfl rfl (z2z h0) (s6s rfl u6u rfl (by assumption) rfl rfl ?_)
   refine dv 1 ?_
   refine x0x rfl rfl rfl (a9d true W.hub n0 x) (dv 4 ?_)
   refine x3x (id := 10) a6d b5f rfl (x3x (id := 11) u6u q4q rfl (dv 6 ?_))
   refine a0n rfl rfl a6d rfl rfl rfl rfl (r9r rfl) rfl ?_
   refine dv 4 ?_
   refine z0z (j := 0) rfl rfl a6l rfl u6u rfl rfl (z2z h0) ?_
   refine v5v (el' := (v1v W.hub n0 x).2.1) rfl rfl u6u rfl rfl rfl h0 rfl (q7q rfl) rfl rfl ?_
   refine dv 7 ?_
   refine rlM [1] [_] (a0q r (v1v W.hub n0 x).2.2 hr1) rfl rfl rfl ?_
   refine dv 7 ?_
   exact ⟨({ W with nodes := W.nodes.set 0 (v1v W.hub n0 x).2.1, radio := b0u r (v1v W.hub n0 x).2.2, hub := (v1v W.hub n0 x).1 }, true), ⟨b3g (W := { W with nodes := _, radio := r, hub := _ }) (a6b (d0z (a5l hW (c7t h0I hHb x)) (b2p h0I.1 hHb x)) hr1 hr2) (b9h W.hub n0 x), (fun h => by cases h)⟩, [γ 0, _], rfl, rfl, x4x⟩
 refine dv 1 ?_
 refine y1y (id := 6) p5p rfl v2v rfl (dv 4 ?_)
 refine d4a w5w rfl p5p rfl v2v rfl rfl rfl rfl (by omega) (by omega) (by (simp only [a0b]; omega)) ?_
 refine b3v (f := u3u true) (l := ([] : List Wo)) (l2 := W.radio) (l' := W.radio.take j) rfl rfl p5p rfl v2v rfl rfl rfl rfl (z8z (fun _ => rfl) _) (by (simp; done)) (by simp only [a0t, b2s, r5r, T79]; omega) ?_
 refine dv 4 ?_
 refine a0g (.int .i64 ((j + 1 : Nat) : Int)) rfl rfl rfl (a8v rfl (by omega) (by omega) (by omega)) ?_
 refine d4a w5w rfl p5p rfl v2v rfl rfl rfl rfl (by omega) (by (simp only [a0b]; omega)) (by omega) ?_
 refine b3v (f := u3u true) (l := W.radio.take j) (l2 := W.radio) (l' := (W.radio.take j ++ W.radio.drop (j + 1))) rfl rfl p5p rfl v2v rfl rfl rfl rfl (z8z (fun _ => rfl) _) (by (simp; done)) (by simp only [a0t, b2s, r5r, T79]; omega) ?_
 refine dv 3 fun K K' => ?_
 (refine e1x 2 6 1 rfl rfl rfl rfl rfl rfl rfl ?_; obtain ⟨r, er, hr1, hr2⟩ : ∃ r, (W.radio.take j ++ W.radio.drop (j + 1)) = r ∧ r.length ≤ 40 ∧ ∀ q ∈ r, c7p q := ⟨_, rfl, e3l hW, e3m hW⟩; rw [er])
 refine dc 4 (aI ?_ ?_)<;>intro o<;>try simp at o
 ·refine dv 5 ?_
  exact ⟨({ W with radio := r }, true), ⟨a6b hW hr1 hr2, (fun h => by cases h)⟩, [γ 0, _], rfl, rfl, x4x⟩
 refine dv 2 ?_
 refine y1y (id := 9) p5p rfl v2v rfl (dv 2 fun K K' => ?_)
 refine q8q (ι := Bool) (fun b γ1 => [(73, .pv (.bool (b)))]) (fun b γ1 => []) (fun b => True) (r2r [2, 4, 6] rfl) (a1p [0, 1, 2, 3, 4, 5, 6, 7, 8, 9, 10, 11, 12] rfl) ?_ fun b γ1 hi => ?_
 ·refine dc 5 (aS ?_ ?_)<;>intro o<;>try simp at o
  ·refine dv 13 ?_
   exact ⟨_, trivial, [], x6x, x6x, x4x, x4x, rfl⟩
  refine dc 4 (aS ?_ ?_)<;>intro o<;>try simp at o
  ·refine dv 9 ?_
   exact ⟨_, trivial, [], x6x, x6x, x4x, x4x, rfl⟩
  refine dc 5 (aS ?_ ?_)<;>intro o<;>try simp at o
  ·refine dv 4 ?_
   exact ⟨_, trivial, [], x6x, x6x, x4x, x4x, rfl⟩
  refine dv 5 ?_
  exact ⟨_, trivial, [], x6x, x6x, x4x, x4x, rfl⟩
 ·try dsimp only [b2t, b2u]
  refine dc 0 (aS ?_ ?_)<;>intro o<;>try simp at o
  ·obtain ⟨q, hq⟩ : ∃ q : Nat, x.to = (q : Int) := ⟨x.to.toNat, by have := hxr.1; omega⟩
   obtain ⟨n, hnd, hnI⟩ := b3f hW (i := q) (by have := hxr.1; omega)
   refine dv 4 ?_
   refine y9y (out := pI x.to) rfl r3r rfl rfl ?_
   rw [hq]
   refine z0z (j := q) rfl rfl a6l rfl u6u rfl rfl (z2z hnd) ?_
   refine s6s rfl u6u rfl (by assumption) rfl rfl ?_
   refine dv 1 ?_
   refine x0x rfl rfl rfl (a8c true n x) (dv 3 ?_)
   refine x3x (id := 12) u6u q4q rfl (dv 6 ?_)
   refine y9y (out := pI x.to) rfl r3r rfl rfl ?_
   rw [hq]
   refine dv 1 ?_
   refine z0z (j := q) rfl rfl a6l rfl u6u rfl rfl (z2z hnd) ?_
   refine v5v (el' := (w3w n x).1) rfl rfl u6u rfl rfl rfl hnd rfl (q7q rfl) rfl rfl ?_
   refine dv 7 ?_
   refine rlM [1] [_] (a0q r (w3w n x).2 hr1) rfl rfl rfl ?_
   refine dv 7 ?_
   exact ⟨({ W with nodes := W.nodes.set q (w3w n x).1, radio := b0u r (w3w n x).2 }, true), ⟨b3g (W := { W with nodes := _, radio := r }) (a6b (a5l hW (e3b hnI x)) hr1 hr2) (c7q hnI.1 x), (fun h => by cases h)⟩, [γ 0, _], rfl, rfl, x4x⟩
  refine dv 2 ?_
  refine y9y (out := .agg (a7d true W.hub)) rfl a6d rfl rfl ?_
  refine dv 2 ?_
  refine z0z (j := 0) rfl rfl a6l rfl u6u rfl rfl (z2z h0) (s6s rfl u6u rfl (by assumption) rfl rfl ?_)
  refine dv 1 ?_
  refine x0x rfl rfl rfl (a9d true W.hub n0 x) (dv 4 ?_)
  refine x3x (id := 10) a6d b5f rfl (x3x (id := 11) u6u q4q rfl (dv 6 ?_))
  refine a0n rfl rfl a6d rfl rfl rfl rfl (r9r rfl) rfl ?_
  refine dv 4 ?_
  refine z0z (j := 0) rfl rfl a6l rfl u6u rfl rfl (z2z h0) ?_
  refine v5v (el' := (v1v W.hub n0 x).2.1) rfl rfl u6u rfl rfl rfl h0 rfl (q7q rfl) rfl rfl ?_
  refine dv 7 ?_
  refine rlM [1] [_] (a0q r (v1v W.hub n0 x).2.2 hr1) rfl rfl rfl ?_
  refine dv 7 ?_
  exact ⟨({ W with nodes := W.nodes.set 0 (v1v W.hub n0 x).2.1, radio := b0u r (v1v W.hub n0 x).2.2, hub := (v1v W.hub n0 x).1 }, true), ⟨b3g (W := { W with nodes := _, radio := r, hub := _ }) (a6b (d0z (a5l hW (c7t h0I hHb x)) (b2p h0I.1 hHb x)) hr1 hr2) (b9h W.hub n0 x), (fun h => by cases h)⟩, [γ 0, _], rfl, rfl, x4x⟩
end
end Go.Proofs.YtlgknoapdbpojaaGreat.Am
