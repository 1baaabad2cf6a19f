/- Part 4 of the texts that the proof of LawFnNodeFall leans on, merged by program. -/
import Derived.Test.YtlgknoapdbpojaaGreatKm3
set_option linter.unusedVariables false
set_option linter.unusedSimpArgs false
set_option maxHeartbeats 4000000
set_option autoImplicit true
set_option relaxedAutoImplicit true
namespace Go.Proofs.YtlgknoapdbpojaaGreat.Am
open Go Go.RowKit
section
theorem a2j (S : Rn) (e : Ev) (r : Int) : Meth Tryz.prog 338 3 [0, 1, 2] [.ptr 0 0 0, .pv (.int .i64 r)] [(0, (0, .box 362 [pI S.s.x, pI S.s.y, pI S.s.count, pI e.time, pI e.to, pI e.from', pI e.count, pI e.n, pI e.kind, pI e.arg, .ref 1 0, .ref 2 0])), (1, (0, .row 56 7 ((S.sends).map v4v))), (2, (0, .row 141 5 ((S.outs).map a0c)))] (.pv (.int .i64 (if r = 0 then S.s.x else S.s.y))) [] := by
 refine mX Tryz.f338 [.pv (.int .i64 (if r = 0 then S.s.x else S.s.y))] 3 0 fun γ => ?_
 refine exR (x0x rfl (x2x fun K1 hK1 => ?_))
 refine exA 2 rfl rfl (x8x rfl ?_ ?_)<;>intro hc2<;>try simp at hc2
 ·have k : r = 0 := hc2
  refine exA 6 rfl rfl (x6x ?_)
  exact ⟨.inr rfl, [γ 0, γ 1, γ 2], rfl, congrArg (fun v : Int => some [AV.pv (.int .i64 v)]) (if_pos k).symm, hv⟩
 have k : ¬ r = 0 := hc2
 refine x7x (hK1 _ _ (exA 6 rfl rfl (x6x ?_)))
 exact ⟨.inr rfl, [γ 0, γ 1, γ 2], rfl, congrArg (fun v : Int => some [AV.pv (.int .i64 v)]) (if_neg k).symm, hv⟩
theorem a5g (S : Rn) (e : Ev) (r n : Int) : Meth Tryz.prog 337 3 [0, 1, 2] [.ptr 0 0 0, .pv (.int .i64 r), .pv (.int .i64 n)] [(0, (0, .box 362 [pI S.s.x, pI S.s.y, pI S.s.count, pI e.time, pI e.to, pI e.from', pI e.count, pI e.n, pI e.kind, pI e.arg, .ref 1 0, .ref 2 0])), (1, (0, .row 56 7 ((S.sends).map v4v))), (2, (0, .row 141 5 ((S.outs).map a0c)))] (.tup []) [(0, (0, .box 362 [pI (f4k S.s r n).x, pI (f4k S.s r n).y, pI (f4k S.s r n).count, pI e.time, pI e.to, pI e.from', pI e.count, pI e.n, pI e.kind, pI e.arg, .ref 1 0, .ref 2 0]))] := by
 refine mX Tryz.f337 [] 3 0 fun γ => ?_
 refine exA 2 rfl rfl (x8x rfl ?_ ?_)<;>intro hc1<;>try simp at hc1
 ·have k : r = 0 := hc1
  refine exG (x1x 2 rfl rfl (p7p rfl rfl rfl (x1x 3 rfl rfl (y9y rfl rfl q5q rfl rfl rfl rfl rfl (by simp only [a0y]; rfl) ?_))))
  exact ⟨.inl rfl, [γ 0, γ 1, γ 2], rfl, rfl, HE.box rfl (by unfold f4k; rw [if_pos k]; rfl) (HE.same rfl (HE.same rfl HE.nil))⟩
 have k : ¬ r = 0 := hc1
 refine exG (x1x 2 rfl rfl (p7p rfl rfl rfl (x1x 3 rfl rfl (y9y rfl rfl q5q rfl rfl rfl rfl rfl (by simp only [a0y]; rfl) ?_))))
 exact ⟨.inl rfl, [γ 0, γ 1, γ 2], rfl, rfl, HE.box rfl (by unfold f4k; rw [if_neg k]; rfl) (HE.same rfl (HE.same rfl HE.nil))⟩
theorem c3j (S : Rn) (e : Ev) (o : Op_) (ho : b2a o) (hs : S.sends.length ≤ 1000) (hu : S.outs.length ≤ 1000) : MethE Tryz.prog 336 3 [.ptr 0 0 0, .agg (b8c o)] [(0, (0, .box 362 [pI S.s.x, pI S.s.y, pI S.s.count, pI e.time, pI e.to, pI e.from', pI e.count, pI e.n, pI e.kind, pI e.arg, .ref 1 0, .ref 2 0])), (1, (0, .row 56 7 ((S.sends).map v4v))), (2, (0, .row 141 5 ((S.outs).map a0c)))] (ι := Rn × Int) (fun S' => S'.1.sends.length ≤ S.sends.length + 1 ∧ S'.1.outs.length ≤ S.outs.length + 1 ∧ (∀ q ∈ S'.1.outs, q ∈ S.outs ∨ q.time = e.time) ∧ 0 ≤ S'.2 ∧ S'.2 ≤ 8) (fun S' => [0]) (fun S' => .pv (.int .i64 S'.2)) (fun S' => [(0, (0, .box 362 [pI S'.1.s.x, pI S'.1.s.y, pI S'.1.s.count, pI e.time, pI e.to, pI e.from', pI e.count, pI e.n, pI e.kind, pI e.arg, .ref 1 0, .ref 2 0])), (1, (0, .row 56 7 ((S'.1.sends).map v4v))), (2, (0, .row 141 5 ((S'.1.outs).map a0c)))]) := by
 refine mE (ι := Rn × Int) Tryz.f336 (fun S' => [.pv (.int .i64 S'.2)]) 3 5 fun γ => ?_
 refine exR (z7z (id := 3) rfl rfl rfl (x0x rfl (x2x fun K1 hK1 => ?_)))
 refine exA 2 rfl rfl (y0y (exA 2 rfl rfl (x8x rfl ?_ ?_)))<;>intro u<;>try simp at u
 ·refine exG (x1x 5 rfl rfl ?_)
  refine rlM [0, 1, 2] [_, _, _] (a5g S e (o.a) (o.b)) rfl rfl rfl ?_
  refine hK1 _ _ ?_
  refine exR ?_
  refine x0x rfl ?_
  refine x6x ?_
  exact ⟨.inr rfl, (⟨⟨_, _, _⟩, S.sends, S.outs⟩, 0), ⟨by exact Nat.le_succ _, by exact Nat.le_succ _, by exact (fun q h => .inl h), by show (0 : Int) ≤ 0; omega, by show (0 : Int) ≤ 8; omega⟩, [γ 0, _, _], rfl, rfl, HE.box rfl rfl (HE.row rfl rfl (HE.row rfl rfl HE.nil))⟩
 refine exA 2 rfl rfl (x8x rfl ?_ ?_)<;>intro u<;>try simp at u
 ·refine exH (x1x 6 rfl rfl ?_)
  refine rlM [0, 1, 2] [_, _, _] (a2j S e (o.a)) rfl rfl rfl ?_
  refine x1x 3 rfl rfl ?_
  refine rlM [0, 1, 2] [_, _, _] (a2j S e (o.b)) rfl rfl rfl ?_
  refine p7p rfl rfl rfl ?_
  refine rlM [0, 1, 2] [_, _, _] (a5g S e (o.a) (IntKind.i64.wrap ((if o.a = 0 then S.s.x else S.s.y) + (if o.b = 0 then S.s.x else S.s.y)))) rfl rfl rfl ?_
  refine ⟨by kernel_rfl, ?_⟩
  refine hK1 _ _ ?_
  refine exR ?_
  refine x0x rfl ?_
  refine x6x ?_
  exact ⟨.inr rfl, (⟨⟨_, _, _⟩, S.sends, S.outs⟩, 0), ⟨by exact Nat.le_succ _, by exact Nat.le_succ _, by exact (fun q h => .inl h), by show (0 : Int) ≤ 0; omega, by show (0 : Int) ≤ 8; omega⟩, [γ 0, _, _], rfl, rfl, HE.box rfl rfl (HE.row rfl rfl (HE.row rfl rfl HE.nil))⟩
 refine exA 2 rfl rfl (x8x rfl ?_ ?_)<;>intro u<;>try simp at u
 ·refine exH (x1x 6 rfl rfl ?_)
  refine rlM [0, 1, 2] [_, _, _] (a2j S e (o.a)) rfl rfl rfl ?_
  refine x1x 2 rfl rfl (p7p rfl rfl rfl ?_)
  refine rlM [0, 1, 2] [_, _, _] (a5g S e (o.a) (IntKind.i64.wrap ((if o.a = 0 then S.s.x else S.s.y) + o.b))) rfl rfl rfl ?_
  refine ⟨by kernel_rfl, ?_⟩
  refine hK1 _ _ ?_
  refine exR ?_
  refine x0x rfl ?_
  refine x6x ?_
  exact ⟨.inr rfl, (⟨⟨_, _, _⟩, S.sends, S.outs⟩, 0), ⟨by exact Nat.le_succ _, by exact Nat.le_succ _, by exact (fun q h => .inl h), by show (0 : Int) ≤ 0; omega, by show (0 : Int) ≤ 8; omega⟩, [γ 0, _, _], rfl, rfl, HE.box rfl rfl (HE.row rfl rfl (HE.row rfl rfl HE.nil))⟩
 refine exA 2 rfl rfl (x8x rfl ?_ ?_)<;>intro u<;>try simp at u
 ·refine exH (x1x 8 rfl rfl ?_)
  refine rlM [0, 1, 2] [_, _, _] (a5g S e (o.a) (e.arg)) rfl rfl rfl ?_
  refine ⟨by kernel_rfl, ?_⟩
  refine hK1 _ _ ?_
  refine exR ?_
  refine x0x rfl ?_
  refine x6x ?_
  exact ⟨.inr rfl, (⟨⟨_, _, _⟩, S.sends, S.outs⟩, 0), ⟨by exact Nat.le_succ _, by exact Nat.le_succ _, by exact (fun q h => .inl h), by show (0 : Int) ≤ 0; omega, by show (0 : Int) ≤ 8; omega⟩, [γ 0, _, _], rfl, rfl, HE.box rfl rfl (HE.row rfl rfl (HE.row rfl rfl HE.nil))⟩
 refine exA 2 rfl rfl (x8x rfl ?_ ?_)<;>intro hc6<;>try simp at hc6
 ·have k5 : o.do' = 5 := hc6
  have hoc : 1 ≤ o.c ∧ o.c ≤ 8 := by unfold b2a at ho; omega
  refine exD (x1x 3 rfl rfl ?_)
  refine rlM [0, 1, 2] [_, _, _] (a2j S e (o.a)) rfl rfl rfl ?_
  refine x1x 3 rfl rfl ⟨by kernel_rfl, x8x rfl ?_ ?_⟩<;>intro u<;>try simp at u
  ·refine exA 3 rfl rfl (x6x ?_)
   exact ⟨.inr rfl, (⟨⟨_, _, _⟩, S.sends, S.outs⟩, o.c), ⟨by exact Nat.le_succ _, by exact Nat.le_succ _, by exact (fun q h => .inl h), by show (0 : Int) ≤ o.c; omega, by show (o.c : Int) ≤ 8; omega⟩, [γ 0, _, _], rfl, rfl, hv⟩
  refine x7x (hK1 _ _ (exR (x0x rfl (x6x ?_))))
  exact ⟨.inr rfl, (⟨⟨_, _, _⟩, S.sends, S.outs⟩, 0), ⟨by exact Nat.le_succ _, by exact Nat.le_succ _, by exact (fun q h => .inl h), by show (0 : Int) ≤ 0; omega, by show (0 : Int) ≤ 8; omega⟩, [γ 0, _, _], rfl, rfl, hv⟩
 refine exA 2 rfl rfl (y2y rfl ?_ ?_)<;>intro u<;>try simp at u
 ·refine exA 2 rfl rfl (y2y rfl ?_ ?_)<;>intro u<;>try simp at u
  ·refine x7x (hK1 _ _ (exR (x0x rfl (x6x ?_))))
   exact ⟨.inr rfl, (⟨⟨_, _, _⟩, S.sends, S.outs⟩, 0), ⟨by exact Nat.le_succ _, by exact Nat.le_succ _, by exact (fun q h => .inl h), by show (0 : Int) ≤ 0; omega, by show (0 : Int) ≤ 8; omega⟩, [γ 0, _, _], rfl, rfl, hv⟩
  refine exH (x1x 24 rfl rfl ?_)
  refine a1l (n := S.outs.length) rfl q8q rfl rfl (List.length_map _) ?_
  refine x1x 3 rfl rfl ?_
  refine rlM [0, 1, 2] [_, _, _] (a2j S e (o.a)) rfl rfl rfl ?_
  refine rlB w8w c5n ?_
  refine u5u (id := 6) q8q rfl w8w rfl rfl rfl rfl rfl rfl ?_
  refine u6u (zs := (S.outs ++ [(Ou.mk e.time e.to S.s.count (S.outs.length : Int) (if o.a = 0 then S.s.x else S.s.y))]).map a0c) rfl rfl q8q rfl w8w rfl rfl rfl rfl (by rfl) (w7w a0c S.outs (Ou.mk e.time e.to S.s.count (S.outs.length : Int) (if o.a = 0 then S.s.x else S.s.y))) (by (simp only [a0w, a0q, a0v, a0x, a1t, a3w, T141]; omega)) ?_
  refine x1x 2 rfl rfl (y9y rfl rfl q8q rfl rfl rfl rfl rfl (by simp only [a0y]; rfl) ?_)
  refine ⟨by kernel_rfl, hK1 _ _ (exR (x0x rfl (x6x ?_)))⟩
  exact ⟨.inr rfl, (⟨⟨_, _, _⟩, S.sends, S.outs ++ [(Ou.mk e.time e.to S.s.count (S.outs.length : Int) (if o.a = 0 then S.s.x else S.s.y))]⟩, 0), ⟨by exact Nat.le_succ _, by simp, by exact (fun q h => by rcases List.mem_append.1 h with h | h; exact .inl h; exact .inr (by rw [List.mem_singleton.1 h])), by show (0 : Int) ≤ 0; omega, by show (0 : Int) ≤ 8; omega⟩, [γ 0, _, _], rfl, rfl, hv⟩
 refine exD (x1x 7 rfl rfl (p7p rfl rfl rfl (v1v rfl rfl rfl ⟨by kernel_rfl, y2y rfl ?_ ?_⟩)))<;>intro u<;>try simp at u
 ·refine x7x (hK1 _ _ (exR (x0x rfl (x6x ?_))))
  exact ⟨.inr rfl, (⟨⟨_, _, _⟩, S.sends, S.outs⟩, 0), ⟨by exact Nat.le_succ _, by exact Nat.le_succ _, by exact (fun q h => .inl h), by show (0 : Int) ≤ 0; omega, by show (0 : Int) ≤ 8; omega⟩, [γ 0, _, _], rfl, rfl, hv⟩
 refine exH (x1x 12 rfl rfl (p7p rfl rfl rfl (x1x 16 rfl rfl ?_)))
 refine a1l (n := S.sends.length) rfl u9u rfl rfl (List.length_map _) ?_
 refine x1x 5 rfl rfl ?_
 refine rlM [0, 1, 2] [_, _, _] (a2j S e (o.d)) rfl rfl rfl ?_
 refine rlB u0u a9t ?_
 refine u5u (id := 4) u9u rfl u0u rfl rfl rfl rfl rfl rfl ?_
 refine u6u (zs := (S.sends ++ [(Ev.mk (IntKind.i64.wrap (e.time + o.c)) o.a e.to S.s.count (S.sends.length : Int) o.b (if o.d = 0 then S.s.x else S.s.y))]).map v4v) rfl rfl u9u rfl u0u rfl rfl rfl rfl (by rfl) (w7w v4v S.sends (Ev.mk (IntKind.i64.wrap (e.time + o.c)) o.a e.to S.s.count (S.sends.length : Int) o.b (if o.d = 0 then S.s.x else S.s.y))) (by (simp only [a0w, a0q, a0v, a0x, a1t, a3w, T56]; omega)) ?_
 refine x1x 2 rfl rfl (y9y rfl rfl u9u rfl rfl rfl rfl rfl (by simp only [a0y]; rfl) ?_)
 refine ⟨by kernel_rfl, hK1 _ _ (exR (x0x rfl (x6x ?_)))⟩
 exact ⟨.inr rfl, (⟨⟨_, _, _⟩, S.sends ++ [(Ev.mk (IntKind.i64.wrap (e.time + o.c)) o.a e.to S.s.count (S.sends.length : Int) o.b (if o.d = 0 then S.s.x else S.s.y))], S.outs⟩, 0), ⟨by simp, by exact Nat.le_succ _, by exact (fun q h => .inl h), by show (0 : Int) ≤ 0; omega, by show (0 : Int) ≤ 8; omega⟩, [γ 0, _, _], rfl, rfl, hv⟩
theorem c8m (a : Ap) (s : St) (e : Ev) (hb : ∀ r ∈ a.rules, r.ops.length ≤ 1048576) : MethE Tryz.prog 335 0 [.agg (c0h true a), .agg (a2h s), .agg (v4v e)] [] (ι := Rn) (fun S' => S'.sends.length ≤ 32 ∧ S'.outs.length ≤ 32 ∧ ∀ q ∈ S'.outs, q.time = e.time) (fun S' => []) (fun S' => .tup [.agg (a2h S'.s), a1y true S'.sends, a0p true S'.outs]) (fun S' => []) := by
 refine mE (ι := Rn) Tryz.f335 (fun S' => [.agg (a2h S'.s), a1y true S'.sends, a0p true S'.outs]) 0 12 fun γ => ?_
 refine exR (z7z (id := 0) rfl rfl rfl (z7z (id := 1) rfl rfl rfl (z7z (id := 2) rfl rfl rfl (y7y (id := 3) a0t c9n rfl (x1x 2 rfl rfl (x2x fun K1 hK1 => ?_))))))
 refine exR (x5x rfl a2f rfl rfl rfl (rlB a2f b5c ?_))
 refine rlB a2f b5c ?_
 refine rlB a2f b5c ?_
 refine a0l (id := 4) b3c rfl a2f rfl rfl rfl rfl (.val rfl rfl (.val rfl rfl (.val rfl rfl (.val rfl rfl .nil)))) rfl (a1d rfl) (a1d rfl) (a1d rfl) rfl rfl ?_
 refine b6c rfl rfl rfl (.ref rfl (e3f a) .nil) (a9p false (f1v a) (by intro x hx; simp only [f1v, List.mem_cons, List.not_mem_nil, or_false] at hx; rcases hx with rfl | rfl | rfl | rfl <;> first | exact hb | (intro r hr; cases hr))) (.pv _) ?_
 refine x1x 2 rfl rfl (z6z rfl rfl ?_ ?_)<;>intro hg2<;>try simp at hg2
 ·refine x1x 8 rfl rfl (x8x rfl (fun hc17 => ?_) (fun hc17 => ?_))
  rotate_left
  ·simp at hc17
  try simp at hc17
  refine exR (rlB a0t c9n ?_)
  refine z8z (id := 5) u9u rfl u0u rfl (z8z (id := 6) q8q rfl w8w rfl (x3x rfl rfl a0t rfl rfl rfl rfl (x1x 2 rfl rfl ?_)))
  refine a1e (f := v4v) (l := []) 7 rfl rfl (fun _ => rfl) ?_
  refine a1e (f := a0c) (l := []) 8 rfl rfl (fun _ => rfl) ?_
  refine x6x ?_
  exact ⟨.inr rfl, ⟨⟨0, 0, 0⟩, [], []⟩, ⟨Nat.zero_le _, Nat.zero_le _, fun q h => by cases h⟩, [], rfl, rfl, hv⟩
 have fA : e2c a := f1o (a1x.1 (by simpa using hg2))
 refine x5x rfl a0t rfl rfl rfl (z1z rfl rfl (x9x rfl rfl rfl (a7s ..) (x1x 3 rfl rfl (z6z rfl rfl ?_ ?_))))<;>intro u<;>try simp at u
 ·refine x1x 3 rfl rfl (x8x rfl (fun hc16 => ?_) (fun hc16 => ?_))
  rotate_left
  ·simp at hc16
  try simp at hc16
  refine exR (rlB a0t c9n ?_)
  refine z8z (id := 5) u9u rfl u0u rfl (z8z (id := 6) q8q rfl w8w rfl (x3x rfl rfl a0t rfl rfl rfl rfl (x1x 2 rfl rfl ?_)))
  refine a1e (f := v4v) (l := []) 7 rfl rfl (fun _ => rfl) ?_
  refine a1e (f := a0c) (l := []) 8 rfl rfl (fun _ => rfl) ?_
  refine x6x ?_
  exact ⟨.inr rfl, ⟨⟨0, 0, 0⟩, [], []⟩, ⟨Nat.zero_le _, Nat.zero_le _, fun q h => by cases h⟩, [], rfl, rfl, hv⟩
 refine x5x rfl u0u rfl rfl rfl (z1z rfl rfl (x9x rfl rfl rfl (a7t ..) (x1x 2 rfl rfl (x8x rfl ?_ ?_))))<;>intro u<;>try simp at u
 ·refine exR (rlB a0t c9n ?_)
  refine z8z (id := 5) u9u rfl u0u rfl (z8z (id := 6) q8q rfl w8w rfl (x3x rfl rfl a0t rfl rfl rfl rfl (x1x 2 rfl rfl ?_)))
  refine a1e (f := v4v) (l := []) 7 rfl rfl (fun _ => rfl) ?_
  refine a1e (f := a0c) (l := []) 8 rfl rfl (fun _ => rfl) ?_
  refine x6x ?_
  exact ⟨.inr rfl, ⟨⟨0, 0, 0⟩, [], []⟩, ⟨Nat.zero_le _, Nat.zero_le _, fun q h => by cases h⟩, [], rfl, rfl, hv⟩
 refine x7x (hK1 _ _ (x2x fun K5 hK5 => ?_))
 refine exA 3 rfl rfl (x8x rfl ?_ ?_)<;>intro u<;>try simp at u
 ·refine exR (x5x rfl a0t rfl rfl rfl (z8z (id := 7) u9u rfl u0u rfl (z8z (id := 8) q8q rfl w8w rfl (x3x rfl rfl a0t rfl rfl rfl rfl (x1x 2 rfl rfl ?_)))))
  refine a1e (f := v4v) (l := []) 7 rfl rfl (fun _ => rfl) ?_
  refine a1e (f := a0c) (l := []) 8 rfl rfl (fun _ => rfl) ?_
  refine x6x ?_
  exact ⟨.inr rfl, ⟨s, [], []⟩, ⟨Nat.zero_le _, Nat.zero_le _, fun q h => by cases h⟩, [], rfl, rfl, hv⟩
 refine x7x (hK5 _ _ (exA 2 rfl rfl (z8z (id := 9) u9u rfl u0u rfl (z8z (id := 10) q8q rfl w8w rfl (rlB f2j f2o ?_)))))
 refine z7z (id := 11) rfl rfl rfl (x0x rfl (x2x fun K7 hK7 => ?_))
 refine exR (x0x rfl (y0y ?_))
 refine z3z (ι := Rn × Nat) (fun p γ1 => [(10, pI (p.2 : Int))]) (fun p γ1 => [(9, ((γ1 9), .row 56 7 ((p.1.sends).map v4v))), (10, ((γ1 10), .row 141 5 ((p.1.outs).map a0c))), (11, ((0 + 1), .box 362 [pI p.1.s.x, pI p.1.s.y, pI p.1.s.count, pI e.time, pI e.to, pI e.from', pI e.count, pI e.n, pI e.kind, pI e.arg, .ref 9 (γ1 9), .ref 10 (γ1 10)]))]) (fun p => p.2 ≤ a.rules.length ∧ p.1.sends.length ≤ 8 * p.2 ∧ p.1.outs.length ≤ 8 * p.2 ∧ ∀ q ∈ p.1.outs, q.time = e.time) (fun p => a.rules.length - p.2) (cK [3, 5, 6, 9] rfl) (hK [0, 1, 2, 3, 4, 5, 6, 7, 8] rfl) (⟨s, [], []⟩, 0) ⟨Nat.zero_le _, Nat.zero_le _, Nat.zero_le _, fun q h => by cases h⟩ [0, 0, 0, 0, 0, 0, 0, 0, 0, _, _] cv (HE.row rfl (by rfl) (HE.row rfl (by rfl) (HE.box rfl (by rfl) HE.nil))) rfl fun p γ1 hi => ?_
 obtain ⟨S, i⟩ := p
 obtain ⟨h1, h2, h3, h4⟩ := hi
 dsimp only at h1 h2 h3 h4 ⊢
 refine x2x fun K8 hK8 => ?_
 refine exA 3 rfl rfl (z2z rfl a5l rfl (v1v rfl rfl rfl (y2y rfl ?_ ?_)))<;>intro u<;>try simp at u
 ·have ha4 := fA.1
  refine z4z (hK7 _ _ (exA 6 rfl rfl (p7p rfl rfl rfl (x1x 3 rfl rfl (y9y rfl rfl q5q rfl rfl rfl rfl rfl (by simp only [a0y]; rfl) ?_)))))
  refine exD (x1x 12 rfl rfl (x3x rfl rfl a0t rfl rfl rfl rfl (x1x 2 rfl rfl ⟨by kernel_rfl, a1e 7 rfl rfl (fun _ => rfl) ?_⟩)))
  refine a1e 8 rfl rfl (fun _ => rfl) ?_
  refine x6x ?_
  exact ⟨.inr rfl, ⟨⟨S.s.x, S.s.y, IntKind.i64.wrap (S.s.count + 1)⟩, S.sends, S.outs⟩, ⟨by show S.sends.length ≤ 32; omega, by show S.outs.length ≤ 32; omega, by exact h4⟩, [], rfl, rfl, hv⟩
 obtain ⟨r, hr⟩ := gE a.rules i
 have hro := fA.2 i r hr
 have hr8 := hro.2.1.2.1
 have ha4 := fA.1
 refine x7x (hK8 _ _ (x2x fun K10 hK10 => ?_))
 refine y0y (x2x fun K11 hK11 => ?_)
 refine exD (x1x 3 rfl rfl (y8y rfl rfl a5l rfl a5x rfl hr (x1x 5 rfl rfl ⟨by kernel_rfl, x8x rfl ?_ ?_⟩)))<;>intro u<;>try simp at u
 ·refine z4z (hK10 _ _ (exG (x4x rfl (z5z (b := 1) rfl rfl (by omega) (x0x rfl ?_)))))
  exact ⟨(S, i + 1), ⟨(by exact ⟨by show i + 1 ≤ _; omega, by show S.sends.length ≤ 8 * (i + 1); omega, by show S.outs.length ≤ 8 * (i + 1); omega, h4⟩), (by show a.rules.length - (i + 1) < a.rules.length - i; omega)⟩, [0, 0, 0, 0, 0, 0, 0, 0, 0, _, _], cv, cv, hv, hv, rfl⟩
 refine x7x (hK11 _ _ (exA 3 rfl rfl (y8y rfl rfl a5l rfl a5x rfl hr (x1x 3 rfl rfl (exR (x0x rfl (y0y ?_)))))))
 refine z3z (ι := Rn × Nat × Nat) (fun p γ2 => [(12, pI (p.2.1 : Int))]) (fun p γ2 => [(9, ((γ2 9), .row 56 7 ((p.1.sends).map v4v))), (10, ((γ2 10), .row 141 5 ((p.1.outs).map a0c))), (11, ((0 + 1), .box 362 [pI p.1.s.x, pI p.1.s.y, pI p.1.s.count, pI e.time, pI e.to, pI e.from', pI e.count, pI e.n, pI e.kind, pI e.arg, .ref 9 (γ2 9), .ref 10 (γ2 10)]))]) (fun p => p.2.1 ≤ 20 ∧ p.2.2 ≤ p.2.1 ∧ p.2.2 ≤ 8 ∧ p.1.sends.length ≤ 8 * i + p.2.2 ∧ p.1.outs.length ≤ 8 * i + p.2.2 ∧ ∀ q ∈ p.1.outs, q.time = e.time) (fun p => 20 - p.2.1) (cK [3, 5, 6, 9, 10, 11] rfl) (hK [0, 1, 2, 3, 4, 5, 6, 7, 8] rfl) (S, 0, 0) ⟨Nat.zero_le _, Nat.le_refl _, Nat.zero_le _, h2, h3, h4⟩ [0, 0, 0, 0, 0, 0, 0, 0, 0, _, _] cv hv rfl fun p γ2 hi => ?_
 obtain ⟨S, k, m⟩ := p
 obtain ⟨k1, k2, k3, k3a, k4, k5⟩ := hi
 dsimp only at k1 k2 k3 k3a k4 k5 ⊢
 refine x2x fun K13 hK13 => ?_
 refine exA 2 rfl rfl (z2z rfl a5w rfl (v1v rfl rfl rfl (y2y rfl ?_ ?_)))<;>intro u<;>try simp at u
 ·refine z4z (hK10 _ _ (exG (x4x rfl (z5z (b := 1) rfl rfl (by omega) (x0x rfl ?_)))))
  exact ⟨(S, i + 1), ⟨(by exact ⟨by show i + 1 ≤ _; omega, by show S.sends.length ≤ 8 * (i + 1); omega, by show S.outs.length ≤ 8 * (i + 1); omega, k5⟩), (by show a.rules.length - (i + 1) < a.rules.length - i; omega)⟩, [0, 0, 0, 0, 0, 0, 0, 0, 0, _, _], cv, cv, hv, hv, rfl⟩
 obtain ⟨o, ho⟩ := gE r.ops k
 have hok := hro.2.1.1 o (List.mem_of_getElem? ho)
 refine x7x (hK13 _ _ (x2x fun K15 hK15 => ?_))
 refine y0y (a8c fun B X0 w0 => ?_)
 refine txR 6 rfl rfl (x1x 4 rfl rfl (y8y rfl rfl a5w rfl a1r rfl ho ?_))
 refine v9v (out := .agg (b8c o)) rfl a1r rfl ?_
 refine txM [11, 9, 10] [_, _, _] (c3j S e o hok (by omega) (by omega)) rfl rfl rfl rfl fun j hj => ?_
 obtain ⟨q1, q2, q3, q4, q5⟩ := hj
 obtain ⟨sk, hsk⟩ : ∃ sk : Nat, j.2 = (sk : Int) := ⟨j.2.toNat, by omega⟩
 rw [hsk]
 refine txR 2 rfl rfl (z5z rfl rfl (by omega) (x0x rfl (w1w rfl (hK15 _ _ (exG (x4x rfl (z5z (b := 1) rfl rfl (by omega) (x0x rfl ?_))))))))
 exact ⟨(j.1, k + sk + 1, m + 1), ⟨(by exact ⟨by show k + sk + 1 ≤ 20; omega, by show m + 1 ≤ k + sk + 1; omega, by show m + 1 ≤ 8; omega, by show j.1.sends.length ≤ 8 * i + (m + 1); omega, by show j.1.outs.length ≤ 8 * i + (m + 1); omega, fun q hq => (q3 q hq).elim (k5 q) (fun h => h)⟩), (by show 20 - (k + sk + 1) < 20 - k; omega)⟩, [0, 0, 0, 0, 0, 0, 0, 0, 0, _, _], cv, cv, hv, hv, rfl⟩
end
section
theorem c8n (c : Bool) (p : Pa) (proc : Int) : a1o Tryz.prog 219 [.agg (a3l c p), .pv (.int .i64 proc)] (.pv (.bool (b7u proc p))) := by
 refine pX Tryz.f219 [.pv (.bool (b7u proc p))] 1 ?_
 refine exR (z7z (id := 0) rfl rfl rfl (x0x rfl (exR (y1y rfl r5r rfl rfl u0u rfl rfl ?_))))
 refine v3v (out := .agg (v4v p.ev)) rfl u0u rfl rfl ?_
 refine x9x rfl rfl rfl (b5m ..) (x4x rfl (z6z rfl rfl ?_ ?_))<;>intro h<;>try simp at h
 ·refine x1x 21 rfl rfl (x6x ⟨.inr rfl, ?_⟩)
  refine y6y rfl ?_ rfl
  simp [b7u, *]
 refine x1x 7 rfl rfl (z6z rfl rfl ?_ ?_)<;>intro h<;>try simp at h
 ·refine x1x 14 rfl rfl (x6x ⟨.inr rfl, ?_⟩)
  refine y6y rfl ?_ rfl
  simp [b7u, *]
 refine y1y rfl r5r rfl rfl a0t rfl rfl (z1z rfl rfl ?_)
 refine v3v (out := .agg (a2h p.after)) rfl a0t rfl rfl ?_
 refine z1z rfl rfl (x9x rfl rfl rfl (b5l ..) (x1x 2 rfl rfl (z6z rfl rfl ?_ ?_)))<;>intro h<;>try simp at h
 ·refine x1x 9 rfl rfl (x6x ⟨.inr rfl, ?_⟩)
  refine y6y rfl ?_ rfl
  simp [b7u, *]
 refine x1x 2 rfl rfl (z1z rfl rfl (x9x rfl rfl rfl (a8u ..) (x1x 2 rfl rfl (z6z rfl rfl ?_ ?_))))<;>intro h<;>try simp at h
 ·refine x1x 4 rfl rfl (x6x ⟨.inr rfl, ?_⟩)
  refine y6y rfl ?_ rfl
  simp [b7u, *]
 refine x1x 2 rfl rfl (z1z rfl rfl (x9x rfl rfl rfl (b8e ..) (x1x 2 rfl rfl (x6x ⟨.inr rfl, ?_⟩))))
 refine y6y rfl ?_ rfl
 simp [b7u, *]
theorem c0i (c : Bool) (p : Pa) (proc : Int) : a1o Tryz.prog 120 [.agg (a3l c p), .pv (.int .i64 proc)] (.pv (.bool (b7u proc p))) := by
 refine pX Tryz.f120 [.pv (.bool (b7u proc p))] 1 ?_
 refine exR (z7z (id := 0) rfl rfl rfl (x0x rfl (exR (y1y rfl r5r rfl rfl u0u rfl rfl ?_))))
 refine v3v (out := .agg (v4v p.ev)) rfl u0u rfl rfl ?_
 refine x9x rfl rfl rfl (a7t ..) (x4x rfl (z6z rfl rfl ?_ ?_))<;>intro h<;>try simp at h
 ·refine x1x 21 rfl rfl (x6x ⟨.inr rfl, ?_⟩)
  refine y6y rfl ?_ rfl
  simp [b7u, *]
 refine x1x 7 rfl rfl (z6z rfl rfl ?_ ?_)<;>intro h<;>try simp at h
 ·refine x1x 14 rfl rfl (x6x ⟨.inr rfl, ?_⟩)
  refine y6y rfl ?_ rfl
  simp [b7u, *]
 refine y1y rfl r5r rfl rfl a0t rfl rfl (z1z rfl rfl ?_)
 refine v3v (out := .agg (a2h p.after)) rfl a0t rfl rfl ?_
 refine z1z rfl rfl (x9x rfl rfl rfl (a7s ..) (x1x 2 rfl rfl (z6z rfl rfl ?_ ?_)))<;>intro h<;>try simp at h
 ·refine x1x 9 rfl rfl (x6x ⟨.inr rfl, ?_⟩)
  refine y6y rfl ?_ rfl
  simp [b7u, *]
 refine x1x 2 rfl rfl (z1z rfl rfl (x9x rfl rfl rfl (a4j ..) (x1x 2 rfl rfl (z6z rfl rfl ?_ ?_))))<;>intro h<;>try simp at h
 ·refine x1x 4 rfl rfl (x6x ⟨.inr rfl, ?_⟩)
  refine y6y rfl ?_ rfl
  simp [b7u, *]
 refine x1x 2 rfl rfl (z1z rfl rfl (x9x rfl rfl rfl (a8e ..) (x1x 2 rfl rfl (x6x ⟨.inr rfl, ?_⟩))))
 refine y6y rfl ?_ rfl
 simp [b7u, *]
theorem a4o  : a1o Tryz.prog 119 [] (.pv (.int .i64 100)) := by
 refine pX Tryz.f119 [.pv (.int .i64 100)] 0 ?_
 refine exR (x0x rfl (exR (x0x rfl (x6x ⟨.inr rfl, ?_⟩))))
 exact y6y rfl rfl rfl
theorem c8o (c : Bool) (l : La) : a1o Tryz.prog 113 [.agg (a0f c l)] (.pv (.bool (a7h l))) := by
 refine pX Tryz.f113 [.pv (.bool (a7h l))] 2 ?_
 refine exR (z7z (id := 0) rfl rfl rfl (x0x rfl (x2x fun K1 hK1 => ?_)))
 refine exA 2 rfl rfl (x9x rfl rfl rfl (a8d ..) (x1x 2 rfl rfl (z6z rfl rfl ?_ ?_)))<;>intro hg2<;>try simp at hg2
 ·have hn1 : ¬ (0 ≤ l.proc ∧ l.proc ≤ 3) := by omega
  refine x1x 10 rfl rfl (x8x rfl (fun hc15 => ?_) (fun hc15 => ?_))
  rotate_left
  ·simp at hc15
  try simp at hc15
  try have hn3 : ¬ l.done.length ≤ 100 := by omega
  refine exR (x0x rfl (x6x ⟨.inr rfl, ?_⟩))
  refine y6y rfl ?_ rfl
  exact congrArg (fun b : Bool => [AV.pv (.bool b)]) (e7r hn1).symm
 have hc1 : 0 ≤ l.proc ∧ l.proc ≤ 3 := hg2
 refine y1y rfl v6v rfl rfl a0t rfl rfl (z1z rfl rfl ?_)
 refine v3v (out := .agg (a2h l.base)) rfl a0t rfl rfl ?_
 refine z1z rfl rfl (x9x rfl rfl rfl (b5l ..) (x1x 3 rfl rfl (z6z rfl rfl ?_ ?_)))<;>intro hg3<;>try simp at hg3
 ·have hn2 : ¬ c4a l.base := hg3
  refine x1x 4 rfl rfl (x8x rfl (fun hc14 => ?_) (fun hc14 => ?_))
  rotate_left
  ·simp at hc14
  try simp at hc14
  try have hn3 : ¬ l.done.length ≤ 100 := by omega
  refine exR (x0x rfl (x6x ⟨.inr rfl, ?_⟩))
  refine y6y rfl ?_ rfl
  exact congrArg (fun b : Bool => [AV.pv (.bool b)]) (e7s hn2).symm
 have hc2 : c4a l.base := hg3
 refine x1x 2 rfl rfl (z1z rfl rfl (z2z rfl r0r rfl (x1x 2 rfl rfl (x8x rfl ?_ ?_))))<;>intro h<;>try simp at h
 ·try have hn3 : ¬ l.done.length ≤ 100 := by omega
  refine exR (x0x rfl (x6x ⟨.inr rfl, ?_⟩))
  refine y6y rfl ?_ rfl
  exact congrArg (fun b : Bool => [AV.pv (.bool b)]) (e7t hn3).symm
 have hc3 : l.done.length ≤ 100 := by omega
 refine x7x (hK1 _ _ (x2x fun K5 hK5 => ?_))
 refine exA 2 rfl rfl (z2z rfl r0r rfl (x4x rfl (y0y ?_)))
 refine z3z (ι := Nat) (fun i γ1 => [(24, pI (i : Int))]) (fun i γ1 => [(1, ((γ1 1), .dead))]) (fun i => i ≤ l.done.length ∧ a7h l = b0k (b7u l.proc) e7q (b2s l.done i) (l.done.drop i)) (fun i => l.done.length - i) (cK [1, 22, 23] rfl) (z0z 0 rfl HE.nil) 0 ⟨by omega, c7m hc1 hc2 hc3⟩ [0, _] cv hv rfl fun i γ1 hi => ?_
 obtain ⟨h1, h2⟩ := hi
 refine exR (v1v rfl rfl rfl (x2x fun K6 hK6 => ?_))
 refine y2y rfl ?_ ?_<;>intro h<;>try simp at h
 ·obtain rfl : i = l.done.length := by omega
  rw [List.drop_length] at h2
  refine z4z (hK5 _ _ (exR (x0x rfl (x6x ⟨.inr rfl, ?_⟩))))
  refine y6y rfl ?_ rfl
  exact congrArg (fun b : Bool => [AV.pv (.bool b)]) h2.symm
 obtain ⟨p, hp⟩ := gE l.done i
 rw [s2s hp] at h2
 refine x7x (hK6 _ _ (x2x fun K8 hK8 => ?_))
 refine y0y (exR (x4x rfl (y8y rfl rfl r0r rfl r5r rfl hp (u4u rfl r5r rfl rfl (y7y (id := 1) r5r c0e rfl (x0x rfl (x3x rfl rfl r5r rfl rfl rfl rfl (exD (x1x 3 rfl rfl (x9x rfl rfl rfl (c8n ..) (x1x 2 rfl rfl (z6z rfl rfl ?_ ?_))))))))))))<;>intro hg9<;>try simp at hg9
 ·have hbad : b7u l.proc p = false := by simpa using hg9
  refine x1x 15 rfl rfl ⟨by kernel_rfl, x8x rfl (fun hc13 => ?_) (fun hc13 => ?_)⟩
  rotate_left
  ·simp at hc13
  try simp at hc13
  try have hlt := hc13
  refine exR (x0x rfl (x6x ⟨.inr rfl, ?_⟩))
  refine y6y rfl ?_ rfl
  exact congrArg (fun b : Bool => [AV.pv (.bool b)]) (h2.trans (a6w _ _ hbad)).symm
 have hok : b7u l.proc p = true := by simpa using hg9
 refine x1x 3 rfl rfl (z6z rfl rfl ?_ ?_)<;>intro h<;>try simp at h
 ·have hi0 : i = 0 := by omega
  have hlast : b2s l.done i = none := by rw [hi0]; rfl
  rw [hlast] at h2
  refine x1x 12 rfl rfl ⟨by kernel_rfl, x8x rfl (fun hc12 => ?_) (fun hc12 => ?_)⟩
  ·simp at hc12
  try simp at hc12
  try have hlt := hc12
  refine x7x (hK8 _ _ (exG (z5z (b := 1) rfl rfl (by omega) (x4x rfl ?_))))
  exact ⟨i + 1, ⟨⟨by omega, by rw [h2]; show _ = b0k (b7u l.proc) e7q l.done[i]? _; rw [hp]; exact a8m _ _ hok⟩, by omega⟩, [0, _], cv, cv, hv, hv, rfl⟩
 have hi0 : 0 < i := by omega
 obtain ⟨b, hb⟩ := gE l.done (i - 1)
 have hlast : b2s l.done i = some b := by obtain ⟨j, rfl⟩ : ∃ j, i = j + 1 := ⟨i - 1, by omega⟩; exact hb
 rw [hlast] at h2
 refine x1x 3 rfl rfl (z1z rfl rfl (a0s (b := 1) rfl rfl (by omega) (by omega) (z1z rfl rfl (y8y rfl rfl r0r rfl r5r rfl hb (z1z rfl rfl (y1y rfl r5r rfl rfl u0u rfl rfl (z1z rfl rfl ?_)))))))
 refine v9v (out := .agg (v4v b.ev)) rfl u0u rfl ?_
 refine z1z rfl rfl (y1y rfl r5r rfl rfl u0u rfl rfl (z1z rfl rfl ?_))
 refine v3v (out := .agg (v4v p.ev)) rfl u0u rfl rfl ?_
 refine z1z rfl rfl (x9x rfl rfl rfl (b2m ..) (x1x 3 rfl rfl ⟨by kernel_rfl, y2y rfl ?_ ?_⟩))<;>intro hc11<;>try simp at hc11
 ·try have hlt := hc11
  refine x7x (hK8 _ _ (exG (z5z (b := 1) rfl rfl (by omega) (x4x rfl ?_))))
  exact ⟨i + 1, ⟨⟨by omega, by rw [h2]; show _ = b0k (b7u l.proc) e7q l.done[i]? _; rw [hp]; exact b0x _ _ hok hlt⟩, by omega⟩, [0, _], cv, cv, hv, hv, rfl⟩
 try have hlt := hc11
 refine exR (x0x rfl (x6x ⟨.inr rfl, ?_⟩))
 refine y6y rfl ?_ rfl
 exact congrArg (fun b : Bool => [AV.pv (.bool b)]) (h2.trans (b9c _ _ hlt)).symm
theorem a4p (c : Bool) (l : La) : a1o Tryz.prog 32 [.agg (a0f c l)] (.pv (.bool (a7h l))) := by
 refine pX Tryz.f32 [.pv (.bool (a7h l))] 1 ?_
 refine exR (z7z (id := 0) rfl rfl rfl (x0x rfl (x2x fun K1 hK1 => ?_)))
 refine exD (x1x 2 rfl rfl (x9x rfl rfl rfl (a4n ..) (x1x 2 rfl rfl (z6z rfl rfl ?_ ?_))))<;>intro hg2<;>try simp at hg2
 ·have hn1 : ¬ (0 ≤ l.proc ∧ l.proc ≤ 3) := by omega
  refine x1x 11 rfl rfl ⟨by kernel_rfl, x8x rfl (fun hc15 => ?_) (fun hc15 => ?_)⟩
  rotate_left
  ·simp at hc15
  try simp at hc15
  try have hn3 : ¬ l.done.length ≤ 100 := by omega
  refine exR (x0x rfl (x6x ⟨.inr rfl, ?_⟩))
  refine y6y rfl ?_ rfl
  exact congrArg (fun b : Bool => [AV.pv (.bool b)]) (e7r hn1).symm
 have hc1 : 0 ≤ l.proc ∧ l.proc ≤ 3 := hg2
 refine y1y rfl v6v rfl rfl a0t rfl rfl (z1z rfl rfl ?_)
 refine v3v (out := .agg (a2h l.base)) rfl a0t rfl rfl ?_
 refine z1z rfl rfl (x9x rfl rfl rfl (a7s ..) (x1x 3 rfl rfl (z6z rfl rfl ?_ ?_)))<;>intro hg3<;>try simp at hg3
 ·have hn2 : ¬ c4a l.base := hg3
  refine x1x 5 rfl rfl ⟨by kernel_rfl, x8x rfl (fun hc14 => ?_) (fun hc14 => ?_)⟩
  rotate_left
  ·simp at hc14
  try simp at hc14
  try have hn3 : ¬ l.done.length ≤ 100 := by omega
  refine exR (x0x rfl (x6x ⟨.inr rfl, ?_⟩))
  refine y6y rfl ?_ rfl
  exact congrArg (fun b : Bool => [AV.pv (.bool b)]) (e7s hn2).symm
 have hc2 : c4a l.base := hg3
 refine x1x 2 rfl rfl (z1z rfl rfl (z2z rfl r0r rfl (z1z rfl rfl (x9x rfl rfl rfl (a4o ..) (x1x 2 rfl rfl ⟨by kernel_rfl, x8x rfl ?_ ?_⟩)))))<;>intro h<;>try simp at h
 ·try have hn3 : ¬ l.done.length ≤ 100 := by omega
  refine exR (x0x rfl (x6x ⟨.inr rfl, ?_⟩))
  refine y6y rfl ?_ rfl
  exact congrArg (fun b : Bool => [AV.pv (.bool b)]) (e7t hn3).symm
 have hc3 : l.done.length ≤ 100 := by omega
 refine x7x (hK1 _ _ (x2x fun K5 hK5 => ?_))
 refine exR (x0x rfl (y0y ?_))
 refine z3z (ι := Nat) (fun i γ1 => [(3, pI (i : Int))]) (fun i γ1 => []) (fun i => i ≤ l.done.length ∧ a7h l = b0k (b7u l.proc) e7q (b2s l.done i) (l.done.drop i)) (fun i => l.done.length - i) (y3y 1 rfl Cov.nil) (z0z 0 rfl HE.nil) 0 ⟨by omega, c7m hc1 hc2 hc3⟩ [] cv hv rfl fun i γ1 hi => ?_
 obtain ⟨h1, h2⟩ := hi
 refine x2x fun K6 hK6 => ?_
 refine exA 3 rfl rfl (z2z rfl r0r rfl (v1v rfl rfl rfl (y2y rfl ?_ ?_)))<;>intro h<;>try simp at h
 ·obtain rfl : i = l.done.length := by omega
  rw [List.drop_length] at h2
  refine z4z (hK5 _ _ (exR (x0x rfl (x6x ⟨.inr rfl, ?_⟩))))
  refine y6y rfl ?_ rfl
  exact congrArg (fun b : Bool => [AV.pv (.bool b)]) h2.symm
 obtain ⟨p, hp⟩ := gE l.done i
 rw [s2s hp] at h2
 refine x7x (hK6 _ _ (x2x fun K8 hK8 => ?_))
 refine y0y (exD (x1x 3 rfl rfl (y8y rfl rfl r0r rfl r5r rfl hp (x1x 3 rfl rfl (x9x rfl rfl rfl (c0i ..) (x1x 2 rfl rfl (z6z rfl rfl ?_ ?_)))))))<;>intro hg9<;>try simp at hg9
 ·have hbad : b7u l.proc p = false := by simpa using hg9
  refine x1x 19 rfl rfl ⟨by kernel_rfl, x8x rfl (fun hc13 => ?_) (fun hc13 => ?_)⟩
  rotate_left
  ·simp at hc13
  try simp at hc13
  try have hlt := hc13
  refine exR (x0x rfl (x6x ⟨.inr rfl, ?_⟩))
  refine y6y rfl ?_ rfl
  exact congrArg (fun b : Bool => [AV.pv (.bool b)]) (h2.trans (a6w _ _ hbad)).symm
 have hok : b7u l.proc p = true := by simpa using hg9
 refine x1x 3 rfl rfl (z6z rfl rfl ?_ ?_)<;>intro h<;>try simp at h
 ·have hi0 : i = 0 := by omega
  have hlast : b2s l.done i = none := by rw [hi0]; rfl
  rw [hlast] at h2
  refine x1x 16 rfl rfl ⟨by kernel_rfl, x8x rfl (fun hc12 => ?_) (fun hc12 => ?_)⟩
  ·simp at hc12
  try simp at hc12
  try have hlt := hc12
  refine x7x (hK8 _ _ (exG (x4x rfl (z5z (b := 1) rfl rfl (by omega) (x0x rfl ?_)))))
  exact ⟨i + 1, ⟨⟨by omega, by rw [h2]; show _ = b0k (b7u l.proc) e7q l.done[i]? _; rw [hp]; exact a8m _ _ hok⟩, by omega⟩, [], cv, cv, hv, hv, rfl⟩
 have hi0 : 0 < i := by omega
 obtain ⟨b, hb⟩ := gE l.done (i - 1)
 have hlast : b2s l.done i = some b := by obtain ⟨j, rfl⟩ : ∃ j, i = j + 1 := ⟨i - 1, by omega⟩; exact hb
 rw [hlast] at h2
 refine x1x 3 rfl rfl (z1z rfl rfl (a0s (b := 1) rfl rfl (by omega) (by omega) (z1z rfl rfl (y8y rfl rfl r0r rfl r5r rfl hb (z1z rfl rfl (y1y rfl r5r rfl rfl u0u rfl rfl (z1z rfl rfl ?_)))))))
 refine v9v (out := .agg (v4v b.ev)) rfl u0u rfl ?_
 refine x1x 3 rfl rfl (z1z rfl rfl (y8y rfl rfl r0r rfl r5r rfl hp (z1z rfl rfl (y1y rfl r5r rfl rfl u0u rfl rfl (z1z rfl rfl ?_)))))
 refine v9v (out := .agg (v4v p.ev)) rfl u0u rfl ?_
 refine z1z rfl rfl (x9x rfl rfl rfl (a7u ..) (x1x 3 rfl rfl ⟨by kernel_rfl, y2y rfl ?_ ?_⟩))<;>intro hc11<;>try simp at hc11
 ·try have hlt := hc11
  refine x7x (hK8 _ _ (exG (x4x rfl (z5z (b := 1) rfl rfl (by omega) (x0x rfl ?_)))))
  exact ⟨i + 1, ⟨⟨by omega, by rw [h2]; show _ = b0k (b7u l.proc) e7q l.done[i]? _; rw [hp]; exact b0x _ _ hok hlt⟩, by omega⟩, [], cv, cv, hv, hv, rfl⟩
 try have hlt := hc11
 refine exR (x0x rfl (x6x ⟨.inr rfl, ?_⟩))
 refine y6y rfl ?_ rfl
 exact congrArg (fun b : Bool => [AV.pv (.bool b)]) (h2.trans (b9c _ _ hlt)).symm
end
section
theorem a2k (c : Bool) (l : List Ev) (hl : l.length ≤ 10000000) : a1o Tryz.prog 111 [a1y c l] (a1y true (p8p l)) := by
 refine pX Tryz.f111 [a1y true (p8p l)] 3 ?_
 refine exR (x0x rfl (exR (z8z (id := 0) u9u rfl u0u rfl (x0x rfl (x2x fun K1 hK1 => ?_)))))
 refine exR (x0x rfl (y0y ?_))
 refine z3z (ι := Nat) (fun i γ1 => [(3, .ref 0 (γ1 0)), (4, pI (i : Int))]) (fun i γ1 => [(0, ((γ1 0), .row 56 7 ((p8p (l.take i)).map v4v))), (1, ((γ1 1), .dead)), (2, ((γ1 2), .dead))]) (fun i => i ≤ l.length) (fun i => l.length - i) (y3y 0 rfl Cov.nil) HE.nil 0 (by omega) [_, _, _] cv (HE.row rfl (by rw [List.take_zero]; rfl) (HE.kill rfl (HE.kill rfl HE.nil))) rfl fun i γ1 hi => ?_
 refine x2x fun K2 hK2 => ?_
 refine exA 2 rfl rfl (z2z rfl u9u rfl (v1v rfl rfl rfl (y2y rfl ?_ ?_)))<;>intro o<;>try simp at o
 ·obtain rfl : i = l.length := by omega
  refine z4z (hK1 _ _ (exA 2 rfl rfl (x6x ⟨.inr rfl, ?_⟩)))
  refine a5h rfl rfl (fun _ => rfl) ?_
  rw [List.take_length]
 obtain ⟨x, hx⟩ := gE l i
 have hol : (p8p (l.take i)).length ≤ 10000000 := Nat.le_trans (b0z _) (by rw [List.length_take]; omega)
 have hss := b7v (l.take i)
 refine x7x (hK2 _ _ (x2x fun K4 hK4 => ?_))
 refine y0y (exR (x4x rfl (a1l rfl u9u rfl rfl (List.length_map _) ?_)))
 refine x0x rfl ?_
 refine a0k (ι := Nat) (fun k γ2 => [(5, pI (k : Int))]) (fun k γ2 => []) (fun k => k ≤ (p8p (l.take i)).length ∧ (∀ (j : Nat) y, k ≤ j → (p8p (l.take i))[j]? = some y → a3m x y = true) ∧ (∀ y, 0 < k → (p8p (l.take i))[k - 1]? = some y → a3m x y = false)) (cK [0, 3, 4] rfl) (hK [0, 1, 2] rfl) ?_ fun k γ2 hi => ?_
 ·refine y0y ?_
  refine z3z (ι := Nat) (fun k γ3 => [(5, pI (k : Int))]) (fun k γ3 => []) (fun k => k ≤ (p8p (l.take i)).length ∧ (∀ (j : Nat) y, k ≤ j → (p8p (l.take i))[j]? = some y → a3m x y = true)) (fun k => k) (cK [0, 3, 4] rfl) (hK [0, 1, 2] rfl) (p8p (l.take i)).length ⟨Nat.le_refl _, fun j y hj hy => by have := (List.getElem?_eq_some_iff.1 hy).1; omega⟩ [] cv hv rfl fun k γ3 hi => ?_
  obtain ⟨k1, k2⟩ := hi
  refine x2x fun K5 hK5 => ?_
  refine exD (x1x 3 rfl rfl (z6z rfl rfl ?_ ?_))<;>intro o<;>try simp at o
  ·have k0 : k = 0 := by omega
   refine x1x 10 rfl rfl ⟨by kernel_rfl, x8x rfl (fun hc8 => ?_) (fun hc8 => ?_)⟩
   ·simp at hc8
   try simp at hc8
   try have hlt := hc8
   refine z4z ?_
   exact ⟨k, ⟨k1, k2, fun y2 h0 h2 => by omega⟩, [], cv, cv, hv, hv, rfl⟩
  have k0 : 0 < k := by omega
  obtain ⟨y, hy⟩ := gE (p8p (l.take i)) (k - 1)
  refine x1x 2 rfl rfl (z1z rfl rfl (y8y rfl rfl u9u rfl u0u rfl hx (x1x 3 rfl rfl (z1z rfl rfl (a0s (b := 1) rfl rfl (by omega) (by omega) (z1z rfl rfl ?_))))))
  refine v2v (j := k - 1) rfl rfl u9u rfl u0u rfl rfl (by omega) ?_
  refine z1z rfl rfl (q7q rfl u0u rfl hy rfl rfl (z1z rfl rfl (x9x rfl rfl rfl (a7u ..) (b1s rfl rfl ⟨by kernel_rfl, y2y rfl ?_ ?_⟩))))<;>intro hc7<;>try simp at hc7
  ·try have hlt := hc7
   refine z4z ?_
   exact ⟨k, ⟨k1, k2, fun y2 h0 h2 => by (rw [hy] at h2; cases h2; exact hlt)⟩, [], cv, cv, hv, hv, rfl⟩
  try have hlt := hc7
  refine x7x (hK5 _ _ (y0y (exG (x4x rfl (a0s (b := 1) rfl rfl (by omega) (by omega) (x0x rfl ?_))))))
  exact ⟨k - 1, ⟨⟨by omega, fun j y2 hj hy2 => by by_cases hjk : j = k - 1; (subst hjk; rw [hy] at hy2; cases hy2; exact hlt); exact k2 j y2 (by omega) hy2⟩, by omega⟩, [], cv, cv, hv, hv, rfl⟩
 ·try dsimp only [b3s, b3t]
  obtain ⟨c1, c2, c3⟩ := hi
  refine x2x fun K9 hK9 => ?_
  refine exD (x1x 3 rfl rfl (z6z rfl rfl ?_ ?_))<;>intro o<;>try simp at o
  ·have k0 : k = 0 := by omega
   refine x1x 10 rfl rfl ⟨by kernel_rfl, x8x rfl (fun hc16 => ?_) (fun hc16 => ?_)⟩
   ·simp at hc16
   try simp at hc16
   try have hyx : ¬ y = x := by simpa [a2t] using hc16
   have hin : p8p (l.take (i + 1)) = (p8p (l.take i)).take k ++ x :: (p8p (l.take i)).drop k := by rw [b6h hx]; exact e0t d0f hss c2 (fun y2 h0 h2 => ⟨c3 y2 h0 h2, by omega⟩) c1
   refine x7x (hK9 _ _ (exA 3 rfl rfl (y8y rfl rfl u9u rfl u0u rfl hx (u4u rfl u0u rfl rfl (u5u (id := 1) u9u rfl u0u rfl rfl rfl rfl rfl rfl ?_)))))
   refine u6u (zs := (p8p (l.take i) ++ [x]).map v4v) rfl rfl u9u rfl u0u rfl rfl rfl rfl (by rfl) (w7w _ _ _) (by have hb56 : T56.bytes = 56 := rfl; rw [List.length_map, hb56]; simp only [a0q, a0v, a0x]; omega) ?_
   refine x0x rfl (x2x fun K17 hK17 => ?_)
   refine exR (x4x rfl (a1l rfl u9u rfl rfl (List.length_map _) ?_))
   refine a0s (b := 1) rfl rfl (by (simp; done)) (by (simp; omega)) ?_
   refine x0x rfl (y0y ?_)
   refine z3z (ι := Nat × Ev) (fun q γ5 => [(6, pI (q.1 : Int))]) (fun q γ5 => [(0, ((γ1 0 + 1), .row 56 7 (((p8p (l.take i)).take q.1 ++ q.2 :: (p8p (l.take i)).drop q.1).map v4v)))]) (fun q => k ≤ q.1 ∧ q.1 ≤ (p8p (l.take i)).length) (fun q => q.1) (cK [0, 3, 4, 5] rfl) (hK [1, 2] rfl) ((p8p (l.take i)).length, x) ⟨c1, Nat.le_refl _⟩ [] (Cov.cons' (t := 6) rfl (by simp) Cov.nil) (HE.row rfl (by rw [List.take_length, List.drop_length]) HE.nil) rfl fun q γ5 hi => ?_
   obtain ⟨m, u⟩ := q
   obtain ⟨m1, m2⟩ := hi
   dsimp only at m1 m2 ⊢
   refine x2x fun K18 hK18 => ?_
   refine exA 3 rfl rfl (y2y rfl ?_ ?_)<;>intro o<;>try simp at o
   ·obtain rfl : k = m := by omega
    refine z4z (hK17 _ _ (exG (x1x 4 rfl rfl (y8y rfl rfl u9u rfl u0u rfl hx (u4u rfl u0u rfl rfl ?_)))))
    refine v2v (j := k) rfl rfl u9u rfl u0u rfl rfl (v5v (d0o c1)) ?_
    refine q9q (el' := x) rfl rfl u0u rfl rfl rfl (d0o c1) rfl (a6v _) rfl rfl ?_
    refine hK4 _ _ (exG (x4x rfl (z5z (b := 1) rfl rfl (by omega) (x0x rfl ?_))))
    exact ⟨i + 1, ⟨by omega, by omega⟩, [_, _, _], cv, cv, (HE.row rfl (by rw [hin, e0u c1]) (HE.kill rfl (HE.kill rfl HE.nil))), hv, rfl⟩
   obtain ⟨z, hz⟩ := gE (p8p (l.take i)) (m - 1)
   refine x7x (hK18 _ _ (x2x fun K20 hK20 => ?_))
   refine y0y (exG (x1x 4 rfl rfl (a0s (b := 1) rfl rfl (by omega) (by omega) ?_)))
   refine v2v (j := m - 1) rfl rfl u9u rfl u0u rfl rfl (v5v (d4z m2 (by omega) hz)) ?_
   refine q7q rfl u0u rfl (d4z m2 (by omega) hz) rfl rfl ?_
   refine v2v (j := m) rfl rfl u9u rfl u0u rfl rfl (v5v (d0o m2)) ?_
   refine q9q (el' := z) rfl rfl u0u rfl rfl rfl (d0o m2) rfl (a6v _) rfl rfl ?_
   refine hK20 _ _ (exG (x4x rfl (a0s (b := 1) rfl rfl (by omega) (by omega) (x0x rfl ?_))))
   exact ⟨(m - 1, z), ⟨⟨by dsimp only; omega, by dsimp only; omega⟩, (by dsimp only; omega)⟩, [], cv, cv, (HE.row rfl (by rw [e7u m2 (by omega) hz]) HE.nil), hv, rfl⟩
  have k0 : 0 < k := by omega
  obtain ⟨y, hy⟩ := gE (p8p (l.take i)) (k - 1)
  refine x1x 2 rfl rfl (z1z rfl rfl (a0s (b := 1) rfl rfl (by omega) (by omega) (z1z rfl rfl ?_)))
  refine v2v (j := k - 1) rfl rfl u9u rfl u0u rfl rfl (by omega) ?_
  refine z1z rfl rfl (q7q rfl u0u rfl hy rfl rfl (x1x 2 rfl rfl (z1z rfl rfl (y8y rfl rfl u9u rfl u0u rfl hx (z1z rfl rfl (u4u rfl u0u rfl rfl (z1z rfl rfl (b0t rfl rfl (by intro a c h; cases h) (.inl rfl) (f0j _ _ _ _) ?_))))))))
  refine b1s rfl rfl ⟨by kernel_rfl, x8x rfl ?_ ?_⟩<;>intro hc11<;>try simp at hc11
  ·have hyx : y = x := by simpa [a2t] using hc11
   have hsk : p8p (l.take (i + 1)) = p8p (l.take i) := by rw [b6h hx]; exact e9p d0f hss (List.mem_of_getElem? (hyx ▸ hy))
   refine z4z (hK4 _ _ (exG (x4x rfl (z5z (b := 1) rfl rfl (by omega) (x0x rfl ?_)))))
   exact ⟨i + 1, ⟨by omega, by omega⟩, [_, _, _], cv, cv, (HE.row rfl (by rw [hsk]) (HE.kill rfl (HE.kill rfl HE.nil))), hv, rfl⟩
  try have hyx : ¬ y = x := by simpa [a2t] using hc11
  have hin : p8p (l.take (i + 1)) = (p8p (l.take i)).take k ++ x :: (p8p (l.take i)).drop k := by rw [b6h hx]; exact e0t d0f hss c2 (fun y2 h0 h2 => ⟨c3 y2 h0 h2, by (rw [hy] at h2; cases h2; exact hyx)⟩) c1
  refine x7x (hK9 _ _ (exA 3 rfl rfl (y8y rfl rfl u9u rfl u0u rfl hx (u4u rfl u0u rfl rfl (u5u (id := 1) u9u rfl u0u rfl rfl rfl rfl rfl rfl ?_)))))
  refine u6u (zs := (p8p (l.take i) ++ [x]).map v4v) rfl rfl u9u rfl u0u rfl rfl rfl rfl (by rfl) (w7w _ _ _) (by have hb56 : T56.bytes = 56 := rfl; rw [List.length_map, hb56]; simp only [a0q, a0v, a0x]; omega) ?_
  refine x0x rfl (x2x fun K12 hK12 => ?_)
  refine exR (x4x rfl (a1l rfl u9u rfl rfl (List.length_map _) ?_))
  refine a0s (b := 1) rfl rfl (by (simp; done)) (by (simp; omega)) ?_
  refine x0x rfl (y0y ?_)
  refine z3z (ι := Nat × Ev) (fun q γ4 => [(6, pI (q.1 : Int))]) (fun q γ4 => [(0, ((γ1 0 + 1), .row 56 7 (((p8p (l.take i)).take q.1 ++ q.2 :: (p8p (l.take i)).drop q.1).map v4v)))]) (fun q => k ≤ q.1 ∧ q.1 ≤ (p8p (l.take i)).length) (fun q => q.1) (cK [0, 3, 4, 5] rfl) (hK [1, 2] rfl) ((p8p (l.take i)).length, x) ⟨c1, Nat.le_refl _⟩ [] (Cov.cons' (t := 6) rfl (by simp) Cov.nil) (HE.row rfl (by rw [List.take_length, List.drop_length]) HE.nil) rfl fun q γ4 hi => ?_
  obtain ⟨m, u⟩ := q
  obtain ⟨m1, m2⟩ := hi
  dsimp only at m1 m2 ⊢
  refine x2x fun K13 hK13 => ?_
  refine exA 3 rfl rfl (y2y rfl ?_ ?_)<;>intro o<;>try simp at o
  ·obtain rfl : k = m := by omega
   refine z4z (hK12 _ _ (exG (x1x 4 rfl rfl (y8y rfl rfl u9u rfl u0u rfl hx (u4u rfl u0u rfl rfl ?_)))))
   refine v2v (j := k) rfl rfl u9u rfl u0u rfl rfl (v5v (d0o c1)) ?_
   refine q9q (el' := x) rfl rfl u0u rfl rfl rfl (d0o c1) rfl (a6v _) rfl rfl ?_
   refine hK4 _ _ (exG (x4x rfl (z5z (b := 1) rfl rfl (by omega) (x0x rfl ?_))))
   exact ⟨i + 1, ⟨by omega, by omega⟩, [_, _, _], cv, cv, (HE.row rfl (by rw [hin, e0u c1]) (HE.kill rfl (HE.kill rfl HE.nil))), hv, rfl⟩
  obtain ⟨z, hz⟩ := gE (p8p (l.take i)) (m - 1)
  refine x7x (hK13 _ _ (x2x fun K15 hK15 => ?_))
  refine y0y (exG (x1x 4 rfl rfl (a0s (b := 1) rfl rfl (by omega) (by omega) ?_)))
  refine v2v (j := m - 1) rfl rfl u9u rfl u0u rfl rfl (v5v (d4z m2 (by omega) hz)) ?_
  refine q7q rfl u0u rfl (d4z m2 (by omega) hz) rfl rfl ?_
  refine v2v (j := m) rfl rfl u9u rfl u0u rfl rfl (v5v (d0o m2)) ?_
  refine q9q (el' := z) rfl rfl u0u rfl rfl rfl (d0o m2) rfl (a6v _) rfl rfl ?_
  refine hK15 _ _ (exG (x4x rfl (a0s (b := 1) rfl rfl (by omega) (by omega) (x0x rfl ?_))))
  exact ⟨(m - 1, z), ⟨⟨by dsimp only; omega, by dsimp only; omega⟩, (by dsimp only; omega)⟩, [], cv, cv, (HE.row rfl (by rw [e7u m2 (by omega) hz]) HE.nil), hv, rfl⟩
end
section
theorem a3x (c : Bool) (l : La) (f t : Nat) (hlen : l.done.length ≤ 1000000) (hf : f ≤ 1000000) (ht : t ≤ 1000000) (hb : ∀ p ∈ l.done, p.sends.length ≤ 1000000 ∧ p.outs.length ≤ 1000000) : a1o Tryz.prog 110 [.agg (a0f c l), .pv (.int .i64 (f : Int)), .pv (.int .i64 (t : Int))] (.agg (a0f true (a2x l f t))) := by
 refine pX Tryz.f110 [.agg (a0f true (a2x l f t))] 11 ?_
 refine exR (z7z (id := 0) rfl rfl rfl (y7y (id := 1) v6v a7p rfl (exA 4 rfl rfl (rlB v6v a7p ?_))))
 refine y7y (id := 2) v6v a7p rfl (x3x rfl rfl v6v rfl rfl rfl rfl (x2x fun K1 hK1 => ?_))
 refine exA 2 rfl rfl (y0y (a0d 2 4 10 58 12 rfl rfl rfl rfl rfl ?_))
 refine z3z (ι := Nat) (fun i γ1 => [(8, pI (i : Int))]) (fun i γ1 => [(10, ((γ1 10), .row 58 12 (((l.done.take i).drop f).map (a3l true)))), (2, ((0 + 1), .box 44 [pI l.proc, pI l.base.x, pI l.base.y, pI l.base.count, .ref 10 (γ1 10)])), (3, ((γ1 3), .dead)), (4, ((γ1 4), .dead)), (5, ((γ1 5), .dead)), (6, ((γ1 6), .dead)), (7, ((γ1 7), .dead)), (8, ((γ1 8), .dead)), (9, ((γ1 9), .dead))]) (fun i => f ≤ i ∧ (i = f ∨ (i ≤ t ∧ i ≤ l.done.length))) (fun i => l.done.length - i) (cK [2, 3, 6, 7] rfl) (hK [0, 1] rfl) f ⟨Nat.le_refl _, .inl rfl⟩ [0, 0, 0, _, _, _, _, _, _, _, _] cv (HE.row rfl (by rw [List.drop_of_length_le (by rw [List.length_take]; omega)]; rfl) (HE.box rfl rfl (HE.kill rfl (HE.kill rfl (HE.kill rfl (HE.kill rfl (HE.kill rfl (HE.kill rfl (HE.kill rfl HE.nil))))))))) rfl fun i γ1 hi => ?_
 obtain ⟨k1, k2⟩ := hi
 refine x2x fun K2 hK2 => ?_
 refine exA 4 rfl rfl (z6z rfl rfl ?_ ?_)<;>intro h<;>try simp at h
 ·refine x1x 5 rfl rfl (x8x rfl (fun hc6 => ?_) (fun hc6 => ?_))
  ·simp at hc6
  try simp at hc6
  have hfin : (l.done.take i).drop f = (l.done.take t).drop f := c7p k1 k2 (by omega)
  refine z4z (hK1 _ _ (exR (x5x rfl v6v rfl rfl rfl (x3x rfl rfl v6v rfl rfl rfl rfl (x6x ⟨.inr rfl, ?_⟩)))))
  rw [a2x, ← hfin]
  exact ⟨_, _, rfl, .agg rfl (.cl rfl (.cl rfl (.cl rfl (.cl rfl (.ref rfl (Le.ow_map _ (fun _ => rfl) (fun _ => rfl)) .nil))))) .nil⟩
 refine x1x 3 rfl rfl (z1z rfl rfl (z2z rfl r0r rfl (x1x 2 rfl rfl (y2y rfl ?_ ?_))))<;>intro h<;>try simp at h
 ·have hfin : (l.done.take i).drop f = (l.done.take t).drop f := c7p k1 k2 (by omega)
  refine z4z (hK1 _ _ (exR (x5x rfl v6v rfl rfl rfl (x3x rfl rfl v6v rfl rfl rfl rfl (x6x ⟨.inr rfl, ?_⟩)))))
  rw [a2x, ← hfin]
  exact ⟨_, _, rfl, .agg rfl (.cl rfl (.cl rfl (.cl rfl (.cl rfl (.ref rfl (Le.ow_map _ (fun _ => rfl) (fun _ => rfl)) .nil))))) .nil⟩
 obtain ⟨p, hp⟩ := gE l.done i
 have g1 : i < t := by omega
 obtain ⟨hps, hpo⟩ := hb p (List.mem_of_getElem? hp)
 refine x7x (hK2 _ _ (x2x fun K5 hK5 => ?_))
 refine y0y (exA 3 rfl rfl (y8y rfl rfl r0r rfl r5r rfl hp (u4u rfl r5r rfl rfl (y7y (id := 3) r5r c0e rfl (x3x rfl rfl r5r rfl rfl rfl rfl (exH (x1x 3 rfl rfl ?_)))))))
 refine v3v (out := .agg (v4v p.ev)) rfl u0u rfl rfl ?_
 refine y1y rfl r5r rfl rfl a0t rfl rfl ?_
 refine v3v (out := .agg (a2h p.after)) rfl a0t rfl rfl ?_
 refine z8z (id := 4) u9u rfl u0u rfl (x1x 2 rfl rfl ?_)
 refine a2o s3s (zs := (p.sends).map v4v) rfl rfl u9u rfl u0u rfl rfl rfl (w3w (fun _ => rfl) _) rfl (by (simp only [a0w, a0q, a0v, a0x, a1t, a3w, b3r, T56]; omega)) (Le.ow_map _ (fun _ => rfl) (fun _ => rfl)) ?_
 refine z8z (id := 6) q8q rfl w8w rfl (x1x 2 rfl rfl ?_)
 refine a2o s3s (zs := (p.outs).map a0c) rfl rfl q8q rfl w8w rfl rfl rfl (w3w (fun _ => rfl) _) rfl (by (simp only [a0w, a0q, a0v, a0x, a1t, a3w, b3r, T141]; omega)) (Le.ow_map _ (fun _ => rfl) (fun _ => rfl)) ?_
 refine rlB r5r c0e ?_
 refine u5u (id := 8) r0r rfl r5r rfl rfl rfl rfl rfl rfl ?_
 refine u6u (zs := ((l.done.take i).drop f ++ [p]).map (a3l true)) rfl rfl r0r rfl r5r rfl rfl rfl rfl (by rfl) (w7w _ _ _) (by (simp only [a0w, a0q, a0v, a0x, a1t, a3w, b3r, T58]; omega)) ?_
 refine y1y rfl v6v rfl rfl r0r rfl rfl (y9y rfl rfl r0r rfl rfl rfl rfl rfl (by simp only [a0y]; rfl) ?_)
 refine ⟨by kernel_rfl, hK5 _ _ (exG (x4x rfl (z5z (b := 1) rfl rfl (by omega) (x0x rfl ?_))))⟩
 exact ⟨i + 1, ⟨⟨by omega, .inr ⟨by omega, by omega⟩⟩, by omega⟩, [0, 0, 0, _, _, _, _, _, _, _, _], cv, cv, (HE.row rfl (by rw [w0w hp, List.drop_append_of_le_length (by rw [List.length_take]; omega)]) (HE.box rfl rfl (HE.kill rfl (HE.kill rfl (HE.kill rfl (HE.kill rfl (HE.kill rfl (HE.kill rfl (HE.kill rfl HE.nil))))))))), hv, rfl⟩
theorem a6q (c : Bool) (n : Nd) (hl : n.lanes.length ≤ 1000000) (hk : n.kept.length ≤ 1000000) (ho : n.outs.length ≤ 1000000) (hd : ∀ l ∈ n.lanes, lb l) : Meth Tryz.prog 155 3 [] [.agg (w6w c n)] [(0, (0, .dead)), (1, (0, .dead)), (2, (0, .dead))] (.agg [pI n.id, .pv (.bool n.up), pI n.inc, pI n.g, .ref 0 0, a1y true n.kept, a0p true n.outs, pI n.led, pI 0, .ref 1 0, .ref 2 0, pI 0, pI 41]) [(0, (0, .row 44 5 ((n.lanes.map p1p).map (a0f true)))), (1, (0, .row 190 3 ([vi0, vi0, vi0].map (a4g true)))), (2, (0, .row 3 1 ([0, 0, 0].map a6c)))] := by
 refine mX Tryz.f155 [.agg [pI n.id, .pv (.bool n.up), pI n.inc, pI n.g, .ref 0 0, a1y true n.kept, a0p true n.outs, pI n.led, pI 0, .ref 1 0, .ref 2 0, pI 0, pI 41]] 3 13 fun γ => ?_
 refine exR (z7z (id := 3) rfl rfl rfl (y7y (id := 4) y5y s5s rfl (exD (x1x 8 rfl rfl (z8z (id := 5) u9u rfl u0u rfl (x1x 2 rfl rfl ?_))))))
 refine a2o s3s (zs := (n.kept).map v4v) rfl rfl u9u rfl u0u rfl rfl rfl (w3w (fun _ => rfl) _) rfl (by (simp only [a0w, a0q, a0v, a0x, a1t, a3w, b3r, T56]; omega)) (Le.ow_map _ (fun _ => rfl) (fun _ => rfl)) ?_
 refine z8z (id := 7) q8q rfl w8w rfl (x1x 2 rfl rfl ?_)
 refine a2o s3s (zs := (n.outs).map a0c) rfl rfl q8q rfl w8w rfl rfl rfl (w3w (fun _ => rfl) _) rfl (by (simp only [a0w, a0q, a0v, a0x, a1t, a3w, b3r, T141]; omega)) (Le.ow_map _ (fun _ => rfl) (fun _ => rfl)) ?_
 refine x1x 2 rfl rfl (rlB y5y s5s ?_)
 refine y7y (id := 9) y5y s5s rfl (x3x rfl rfl y5y rfl rfl rfl rfl ⟨by kernel_rfl, x2x fun K1 hK1 => ?_⟩)
 refine exR (x0x rfl (y0y (a0d 9 4 0 44 5 rfl rfl rfl rfl rfl ?_)))
 refine z3z (ι := Nat) (fun i γ1 => [(4, pI (i : Int))]) (fun i γ1 => [(0, ((γ1 0), .row 44 5 (((n.lanes.take i).map p1p).map (a0f true)))), (9, ((0 + 1), .box 65 [pI n.id, .pv (.bool n.up), pI n.inc, pI n.g, .ref 0 (γ1 0), a1y true n.kept, a0p true n.outs, pI n.led, pI 0, .pv (.slice none 0 0), .pv (.slice none 0 0), pI 0, pI 41])), (10, ((γ1 10), .dead)), (11, ((γ1 11), .dead))]) (fun i => i ≤ n.lanes.length) (fun i => n.lanes.length - i) (cK [1, 2, 3] rfl) (hK [1, 2, 3, 4, 5, 6, 7, 8, 12, 13, 14, 15] rfl) 0 (by omega) [_, 0, 0, 0, 0, 0, 0, 0, 0, 0, _, _] cv (HE.row rfl (by rw [List.take_zero]; rfl) (HE.box rfl rfl (HE.kill rfl (HE.kill rfl HE.nil)))) rfl fun i γ1 hi => ?_
 refine x2x fun K2 hK2 => ?_
 refine exA 3 rfl rfl (z2z rfl q6q rfl (v1v rfl rfl rfl (x8x rfl ?_ ?_)))<;>intro h<;>try simp at h
 ·obtain ⟨a, ha⟩ := gE n.lanes i
  have had := hd a (List.mem_of_getElem? ha)
  refine x7x (hK2 _ _ (x2x fun K4 hK4 => ?_))
  refine y0y (exH (x1x 5 rfl rfl (y8y rfl rfl q6q rfl v6v rfl ha (u4u rfl v6v rfl rfl (x9x rfl rfl rfl (a3x c a 0 0 had.1 (by omega) (by omega) had.2) ?_)))))
  refine u5u (id := 10) q6q rfl v6v rfl rfl rfl rfl rfl rfl ?_
  refine u6u (zs := ((n.lanes.take i).map p1p ++ [p1p a]).map (a0f true)) rfl rfl q6q rfl v6v rfl rfl rfl rfl (by rfl) (w7w _ _ _) (by (simp only [a0w, a0q, a0v, a0x, a1t, a3w, b3r, T44]; omega)) ?_
  refine y1y rfl y5y rfl rfl q6q rfl rfl (y9y rfl rfl q6q rfl rfl rfl rfl rfl (by simp only [a0y]; rfl) ?_)
  refine ⟨by kernel_rfl, hK4 _ _ (exG (x4x rfl (p7p rfl rfl rfl (x0x rfl ?_))))⟩
  exact ⟨i + 1, ⟨by omega, by omega⟩, [_, 0, 0, 0, 0, 0, 0, 0, 0, 0, _, _], (Cov.cons' (t := 4) rfl (by rw [u2u (by omega) (by omega)]; rfl) Cov.nil), cv, (HE.row rfl (by simp only [w0w ha, List.map_append, List.map_cons, List.map_nil]) (HE.box rfl rfl (HE.kill rfl (HE.kill rfl HE.nil)))), hv, rfl⟩
 obtain rfl : i = n.lanes.length := by omega
 refine z4z (hK1 _ _ (x2x fun K5 hK5 => ?_))
 refine exR (x0x rfl (y0y (a0d 9 9 1 190 3 rfl rfl rfl rfl rfl (a0d 9 10 2 3 1 rfl rfl rfl rfl rfl ?_))))
 refine z3z (ι := Nat) (fun i γ2 => [(5, pI (i : Int))]) (fun i γ2 => [(1, ((γ2 1), .row 190 3 ((List.range i).map fun _ => a7j))), (2, ((γ2 2), .row 3 1 ((List.range i).map fun _ => a6c 0))), (9, ((0 + 1), .box 65 [pI n.id, .pv (.bool n.up), pI n.inc, pI n.g, .ref 0 (γ1 0), a1y true n.kept, a0p true n.outs, pI n.led, pI 0, .ref 1 (γ2 1), .ref 2 (γ2 2), pI 0, pI 41])), (12, ((γ2 12), .dead)), (13, ((γ2 13), .dead)), (14, ((γ2 14), .dead)), (15, ((γ2 15), .dead))]) (fun i => i ≤ 3) (fun i => 3 - i) (cK [2, 3] rfl) (hK [0, 3, 4, 5, 6, 7, 8, 10, 11] rfl) 0 (by omega) [0, _, _, 0, 0, 0, 0, 0, 0, 0, 0, 0, _, _, _, _] cv hv rfl fun i γ2 hi => ?_
 refine x2x fun K6 hK6 => ?_
 refine exA 2 rfl rfl (y2y rfl ?_ ?_)<;>intro h<;>try simp at h
 ·obtain rfl : i = 3 := by omega
  rw [List.take_length]
  refine z4z (hK5 _ _ (exR (x5x rfl y5y rfl rfl rfl (x3x rfl rfl y5y rfl rfl rfl rfl ?_))))
  refine c5s (f := fun _ => a7j) (f' := fun _ => a4g true vi0) (l := List.range 3) 1 rfl (fun _ => .same (.same (.le rfl .nil rfl .nil))) ?_
  refine x6x ?_
  exact ⟨.inr rfl, [_, _, _], rfl, rfl, hv⟩
 refine x7x (hK6 _ _ (x2x fun K8 hK8 => ?_))
 refine y0y (exA 2 rfl rfl (rlB p0p a7w ?_))
 refine u5u (id := 12) s6s rfl p0p rfl rfl rfl rfl rfl rfl ?_
 refine u6u (zs := (List.range i).map (fun _ => a7j) ++ [a7j]) rfl rfl s6s rfl p0p rfl rfl rfl rfl (by rfl) rfl (by (simp only [a0w, a0q, a0v, a0x, a1t, a3w, b3r, T190]; omega)) ?_
 refine y1y rfl y5y rfl rfl s6s rfl rfl (y9y rfl rfl s6s rfl rfl rfl rfl rfl (by simp only [a0y]; rfl) ?_)
 refine exG (x1x 2 rfl rfl (b0s (id := 14) q1q rfl q5q rfl rfl rfl rfl rfl ?_))
 refine u6u (zs := (List.range i).map (fun _ => a6c 0) ++ [a6c 0]) rfl rfl q1q rfl q5q rfl rfl rfl rfl (by rfl) rfl (by (simp only [a0w, a0q, a0v, a0x, a1t, a3w, b3r, T3]; omega)) ?_
 refine y1y rfl y5y rfl rfl q1q rfl rfl (y9y rfl rfl q1q rfl rfl rfl rfl rfl (by simp only [a0y]; rfl) ?_)
 refine hK8 _ _ (exG (x4x rfl (p7p rfl rfl rfl (x0x rfl ?_))))
 exact ⟨i + 1, ⟨by omega, by omega⟩, [0, _, _, 0, 0, 0, 0, 0, 0, 0, 0, 0, _, _, _, _], (Cov.cons' (t := 5) rfl (by rw [u2u (by omega) (by omega)]; rfl) Cov.nil), cv, (HE.row rfl (by rw [List.range_succ, List.map_append]; rfl) (HE.row rfl (by rw [List.range_succ, List.map_append]; rfl) (HE.box rfl rfl (HE.kill rfl (HE.kill rfl (HE.kill rfl (HE.kill rfl HE.nil))))))), hv, rfl⟩
end
section
theorem a6e (c : Bool) (l : La) (h : lb l) : a1o Tryz.prog 110 [.agg (a0f c l), .pv (.int .i64 ((0 : Nat) : Int)), .pv (.int .i64 (l.done.length : Int))] (.agg (a0f true l)) := by
 have := a3x c l 0 l.done.length h.1 (by omega) h.1 h.2
 rw [b6i] at this
 exact this
theorem u1u (c : Bool) (n : Nd) (h : nb n) : Meth Tryz.prog 161 3 [] [.agg (w6w c n)] [(0, (0, .dead)), (1, (0, .dead)), (2, (0, .dead))] (.agg [pI n.id, .pv (.bool n.up), pI n.inc, pI n.g, .ref 0 0, a1y true n.kept, a0p true n.outs, pI n.led, pI n.version, .ref 1 0, .ref 2 0, pI n.round, pI n.low]) [(0, (0, .row 44 5 ((n.lanes).map (a0f true)))), (1, (0, .row 190 3 ((n.views).map (a4g true)))), (2, (0, .row 3 1 (n.known.map a6c)))] := by
 refine mX Tryz.f161 [.agg [pI n.id, .pv (.bool n.up), pI n.inc, pI n.g, .ref 0 0, a1y true n.kept, a0p true n.outs, pI n.led, pI n.version, .ref 1 0, .ref 2 0, pI n.round, pI n.low]] 3 10 fun γ => ?_
 obtain ⟨b1, b2, b3, b4, b5, b6, b7⟩ := h
 refine exR (z7z (id := 3) rfl rfl rfl (y7y (id := 4) y5y s5s rfl (exR (x5x rfl y5y rfl rfl rfl ?_))))
 refine rlM [0, 11, 12] [_, _, _] (a6q c n b1 b2 b3 b4) rfl rfl rfl ?_
 refine y7y (id := 5) y5y s5s rfl (x3x rfl rfl y5y rfl rfl rfl rfl (x2x fun K1 hK1 => ?_))
 refine exR (x0x rfl (y0y ?_))
 refine z3z (ι := Nat) (fun i γ1 => [(4, pI (i : Int))]) (fun i γ1 => [(0, ((γ 0 + 1), .row 44 5 ((n.lanes.take i ++ (n.lanes.drop i).map p1p).map (a0f true))))]) (fun i => i ≤ n.lanes.length) (fun i => n.lanes.length - i) (cK [1, 2, 3] rfl) (hK [1, 2, 3, 4, 5, 6, 7, 8, 9, 10, 11, 12] rfl) 0 (by omega) [] cv (HE.row rfl (by rw [List.take_zero, List.drop_zero]; rfl) HE.nil) rfl fun i γ1 hi => ?_
 refine x2x fun K2 hK2 => ?_
 refine exA 3 rfl rfl (z2z rfl q6q rfl (v1v rfl rfl rfl (x8x rfl ?_ ?_)))<;>intro o<;>try simp at o
 ·obtain ⟨p, hp⟩ := gE n.lanes i
  have hpl := b4 p (List.mem_of_getElem? hp)
  have hAl : ((n.lanes.take i).map (a0f true)).length = i := by rw [List.length_map, List.length_take]; omega
  rw [s2s hp, List.map_cons, List.map_append, List.map_cons]
  refine x7x (hK2 _ _ (x2x fun K4 hK4 => ?_))
  refine y0y (exH (x1x 6 rfl rfl (y8y rfl rfl q6q rfl v6v rfl hp (x1x 4 rfl rfl (y8y rfl rfl q6q rfl v6v rfl hp (x1x 2 rfl rfl (z2z rfl r0r rfl (x9x rfl rfl rfl (a6e c p hpl) (b3e rfl rfl q6q rfl v6v rfl rfl hAl (b0u hAl rfl rfl v6v rfl rfl rfl rfl (a0j rfl) rfl ?_))))))))))
  refine ⟨by kernel_rfl, hK4 _ _ (exG (x4x rfl (p7p rfl rfl rfl (x0x rfl ?_))))⟩
  exact ⟨i + 1, ⟨by omega, by omega⟩, [], (Cov.cons' (t := 4) rfl (by rw [u2u (by omega) (by omega)]; rfl) Cov.nil), cv, (HE.row rfl (by simp only [w0w hp, List.map_append, List.append_assoc]; rfl) HE.nil), hv, rfl⟩
 obtain rfl : i = n.lanes.length := by omega
 rw [List.take_length, List.drop_length, List.map_nil, List.append_nil]
 refine z4z (hK1 _ _ (exA 3 rfl rfl (y9y rfl rfl q5q rfl rfl rfl rfl rfl (by simp only [a0y]; rfl) ?_)))
 refine exA 3 rfl rfl (y9y rfl rfl q5q rfl rfl rfl rfl rfl (by simp only [a0y]; rfl) ?_)
 refine exA 3 rfl rfl (y9y rfl rfl q5q rfl rfl rfl rfl rfl (by simp only [a0y]; rfl) ?_)
 refine exR (z8z (id := 1) s6s rfl p0p rfl (y1y rfl y5y rfl rfl s6s rfl rfl (y9y rfl rfl s6s rfl rfl rfl rfl rfl (by simp only [a0y]; rfl) ?_)))
 refine x2x fun K5 hK5 => ?_
 refine exR (x0x rfl (y0y ?_))
 refine z3z (ι := Nat) (fun j γ2 => [(5, pI (j : Int))]) (fun j γ2 => [(1, ((γ2 1), .row 190 3 ((n.views.take j).map (a4g true)))), (5, ((0 + 1), .box 65 [pI n.id, .pv (.bool n.up), pI n.inc, pI n.g, .ref 0 (γ 0 + 1), a1y true n.kept, a0p true n.outs, pI n.led, pI n.version, .ref 1 (γ2 1), .ref 12 (0 + 1), pI n.round, pI n.low])), (6, ((γ2 6), .dead)), (7, ((γ2 7), .dead)), (8, ((γ2 8), .dead)), (9, ((γ2 9), .dead))]) (fun j => j ≤ n.views.length) (fun j => n.views.length - j) (cK [1, 2, 3] rfl) (hK [0, 2, 3, 4, 10, 11, 12] rfl) 0 (by omega) [0, _, 0, 0, 0, 0, _, _, _, _] cv (HE.row rfl (by rw [List.take_zero]; rfl) (HE.box rfl rfl (HE.kill rfl (HE.kill rfl (HE.kill rfl (HE.kill rfl HE.nil)))))) rfl fun j γ2 hi => ?_
 refine x2x fun K6 hK6 => ?_
 refine exA 3 rfl rfl (z2z rfl s6s rfl (v1v rfl rfl rfl (y2y rfl ?_ ?_)))<;>intro o<;>try simp at o
 ·obtain rfl : j = n.views.length := by omega
  rw [List.take_length]
  refine z4z (hK5 _ _ (exR (z8z (id := 2) q1q rfl q5q rfl (x1x 2 rfl rfl ?_))))
  refine s1s (zs := n.known.map a6c) rfl rfl q1q rfl q5q rfl rfl rfl (w3w (fun _ => rfl) _) rfl (by (simp only [a0w, a0q, a0v, a0x, a1t, a3w, b3r, T3]; omega)) ?_
  refine y1y rfl y5y rfl rfl q1q rfl rfl (y9y rfl rfl q1q rfl rfl rfl rfl rfl (by simp only [a0y]; rfl) ?_)
  refine exR (x5x rfl y5y rfl rfl rfl (x3x rfl rfl y5y rfl rfl rfl rfl (x6x ?_)))
  exact ⟨.inr rfl, [_, _, _], rfl, rfl, hv⟩
 obtain ⟨v, hv⟩ := gE n.views j
 have hve := b6 v (List.mem_of_getElem? hv)
 refine x7x (hK6 _ _ (x2x fun K8 hK8 => ?_))
 refine y0y (exH (x1x 5 rfl rfl (y8y rfl rfl s6s rfl p0p rfl hv (x1x 5 rfl rfl (y8y rfl rfl s6s rfl p0p rfl hv (x1x 2 rfl rfl (z8z (id := 6) u9u rfl u0u rfl (x1x 3 rfl rfl (y8y rfl rfl s6s rfl p0p rfl hv (x1x 2 rfl rfl ?_))))))))))
 refine a2o s3s (zs := (v.events).map v4v) rfl rfl u9u rfl u0u rfl rfl rfl (w3w (fun _ => rfl) _) rfl (by (simp only [a0w, a0q, a0v, a0x, a1t, a3w, b3r, T56]; omega)) (Le.ow_map _ (fun _ => rfl) (fun _ => rfl)) ?_
 refine rlB p0p a7w ?_
 refine u5u (id := 8) s6s rfl p0p rfl rfl rfl rfl rfl rfl ?_
 refine u6u (zs := (n.views.take j ++ [v]).map (a4g true)) rfl rfl s6s rfl p0p rfl rfl rfl rfl (by rfl) (w7w _ _ _) (by (simp only [a0w, a0q, a0v, a0x, a1t, a3w, b3r, T190]; omega)) ?_
 refine y1y rfl y5y rfl rfl s6s rfl rfl (y9y rfl rfl s6s rfl rfl rfl rfl rfl (by simp only [a0y]; rfl) ?_)
 refine ⟨by kernel_rfl, hK8 _ _ (exG (x4x rfl (p7p rfl rfl rfl (x0x rfl ?_))))⟩
 exact ⟨j + 1, ⟨by omega, by omega⟩, [0, _, 0, 0, 0, 0, _, _, _, _], (Cov.cons' (t := 5) rfl (by rw [u2u (by omega) (by omega)]; rfl) Cov.nil), (y3y 1 rfl (y3y 2 rfl (y3y 3 rfl Cov.nil))), (HE.row rfl (by rw [w0w hv]) (HE.box rfl rfl (HE.kill rfl (HE.kill rfl (HE.kill rfl (HE.kill rfl HE.nil)))))), (z0z 0 rfl (z0z 2 rfl (z0z 3 rfl (z0z 4 rfl (z0z 10 rfl (z0z 11 rfl (z0z 12 rfl HE.nil))))))), rfl⟩
end
section
theorem b0c (c c' : Bool) (l : La) (s : List Ev) : a1o Tryz.prog 148 [.agg (a0f c l), a1y c' s] (.pv (.int .i64 (same l.done s : Int))) := by
 refine pX Tryz.f148 [.pv (.int .i64 (same l.done s : Int))] 1 ?_
 refine p2p 1 rfl fun hlen => ?_
 refine exR (z7z (id := 0) rfl rfl rfl (x0x rfl (exR (x0x rfl (x2x fun K1 hK1 => ?_)))))
 refine y0y ?_
 refine z3z (ι := Nat) (fun i γ1 => [(5, pI (i : Int))]) (fun i γ1 => []) (fun i => i ≤ l.done.length ∧ i ≤ s.length ∧ same l.done s = i + same (l.done.drop i) (s.drop i)) (fun i => l.done.length - i) (cK [1, 2] rfl) (z0z 0 rfl HE.nil) 0 ⟨by omega, by omega, by rw [List.drop_zero, List.drop_zero, Nat.zero_add]⟩ [] cv hv rfl fun i γ1 hi => ?_
 obtain ⟨h1, h2, h3⟩ := hi
 refine x2x fun K2 hK2 => ?_
 refine exD (x1x 3 rfl rfl (z2z rfl r0r rfl (x1x 2 rfl rfl (z6z rfl rfl ?_ ?_))))<;>intro o<;>try simp at o
 ·have g1 : l.done.length ≤ i := by omega
  refine x1x 17 rfl rfl ⟨by kernel_rfl, x8x rfl (fun hc7 => ?_) (fun hc7 => ?_)⟩
  ·simp at hc7
  try simp at hc7
  try have heq : ¬ p.ev = e := by simpa [a2t] using hc7
  refine z4z (hK1 _ _ (exA 2 rfl rfl (x6x ⟨.inr rfl, ?_⟩)))
  refine y6y rfl ?_ rfl
  exact congrArg (fun v : Nat => [AV.pv (.int .i64 (v : Int))]) (h3.trans (by rw [d0l g1]; rfl)).symm
 have g1 : i < l.done.length := by omega
 obtain ⟨p, hp⟩ := gE l.done i
 refine x1x 2 rfl rfl (z1z rfl rfl (z2z rfl u9u rfl (x1x 3 rfl rfl (z6z rfl rfl ?_ ?_))))<;>intro o<;>try simp at o
 ·have g2 : s.length ≤ i := by omega
  refine x1x 11 rfl rfl ⟨by kernel_rfl, x8x rfl (fun hc6 => ?_) (fun hc6 => ?_)⟩
  ·simp at hc6
  try simp at hc6
  try have heq : ¬ p.ev = e := by simpa [a2t] using hc6
  refine z4z (hK1 _ _ (exA 2 rfl rfl (x6x ⟨.inr rfl, ?_⟩)))
  refine y6y rfl ?_ rfl
  exact congrArg (fun v : Nat => [AV.pv (.int .i64 (v : Int))]) (h3.trans (by rw [d0m g2]; rfl)).symm
 have g2 : i < s.length := by omega
 obtain ⟨e, he⟩ := gE s i
 refine x1x 3 rfl rfl (z1z rfl rfl (y8y rfl rfl r0r rfl r5r rfl hp (z1z rfl rfl (y1y rfl r5r rfl rfl u0u rfl rfl (z1z rfl rfl ?_)))))
 refine v9v (out := .agg (v4v p.ev)) rfl u0u rfl ?_
 refine x1x 2 rfl rfl (z1z rfl rfl (y8y rfl rfl u9u rfl u0u rfl he (z1z rfl rfl ?_)))
 refine v9v (out := .agg (v4v e)) rfl u0u rfl ?_
 refine z1z rfl rfl (b0t rfl rfl (by intro a c h; cases h) (.inl rfl) (f0j _ _ _ _) ?_)
 refine b1s rfl rfl ⟨by kernel_rfl, x8x rfl ?_ ?_⟩<;>intro hc5<;>try simp at hc5
 ·try have heq : p.ev = e := by simpa [a2t] using hc5
  refine x7x (hK2 _ _ (y0y (exG (x4x rfl (z5z (b := 1) rfl rfl (by omega) (x0x rfl ?_))))))
  exact ⟨i + 1, ⟨⟨by omega, by omega, by rw [h3, d0j hp he heq]; omega⟩, by omega⟩, [], cv, cv, hv, hv, rfl⟩
 try have heq : ¬ p.ev = e := by simpa [a2t] using hc5
 refine z4z (hK1 _ _ (exA 2 rfl rfl (x6x ⟨.inr rfl, ?_⟩)))
 refine y6y rfl ?_ rfl
 exact congrArg (fun v : Nat => [AV.pv (.int .i64 (v : Int))]) (h3.trans (by rw [d0k hp he heq]; rfl)).symm
theorem b5o (c : Bool) (n : Nd) (hs : (a2c n).length ≤ 5000000) (hlen : n.lanes.length ≤ 1048576) : Meth Tryz.prog 228 1 [] [.agg (w6w c n)] [(0, (0, .dead))] (.ref 0 0) [(0, (0, .row 56 7 ((a2c n).map v4v)))] := by
 refine mX Tryz.f228 [.ref 0 0] 1 3 fun γ => ?_
 have hkl : n.kept.length ≤ 5000000 := by simp only [a2c, a0q] at hs; omega
 refine exR (z7z (id := 1) rfl rfl rfl (x0x rfl (exR (z8z (id := 0) u9u rfl u0u rfl (x1x 2 rfl rfl ?_)))))
 refine s1s (zs := n.kept.map v4v) rfl rfl u9u rfl u0u rfl rfl rfl (w3w (fun _ => rfl) _) rfl (by have hb56 : T56.bytes = 56 := rfl; rw [List.length_map, hb56]; omega) ?_
 refine x0x rfl (x2x fun K1 hK1 => ?_)
 refine exR (x0x rfl (y0y ?_))
 refine z3z (ι := Nat) (fun i γ1 => [(3, .ref 0 (γ1 0)), (4, pI (i : Int))]) (fun i γ1 => [(0, ((γ1 0), .row 56 7 ((n.kept ++ (n.lanes.take i).flatMap b0y).map v4v))), (3, ((γ1 3), .dead))]) (fun i => i ≤ n.lanes.length) (fun i => n.lanes.length - i) (y3y 1 rfl Cov.nil) (hK [1, 2] rfl) 0 (by omega) [_, 0, 0, _] cv (HE.row rfl (by simp) (HE.kill rfl HE.nil)) rfl fun i γ1 hi => ?_
 refine x2x fun K2 hK2 => ?_
 refine exA 3 rfl rfl (z2z rfl q6q rfl (v1v rfl rfl rfl (y2y rfl ?_ ?_)))<;>intro o<;>try simp at o
 ·obtain rfl : i = n.lanes.length := by omega
  refine z4z (hK1 _ _ (exA 2 rfl rfl (x6x ?_)))
  exact ⟨.inr rfl, [_], rfl, rfl, HE.row rfl (by rw [List.take_length]; rfl) HE.nil⟩
 obtain ⟨p, hp⟩ := gE n.lanes i
 refine x7x (hK2 _ _ (x2x fun K4 hK4 => ?_))
 refine y0y (exR (x0x rfl (y0y ?_)))
 refine z3z (ι := Nat) (fun j γ2 => [(3, .ref 0 (γ2 0)), (5, pI (j : Int))]) (fun j γ2 => [(0, ((γ2 0), .row 56 7 ((n.kept ++ (n.lanes.take i).flatMap b0y ++ (p.done.take j).flatMap Pa.sends).map v4v))), (3, ((γ2 3), .dead))]) (fun j => j ≤ p.done.length) (fun j => p.done.length - j) (cK [1, 4] rfl) (hK [1, 2] rfl) 0 (by omega) [_, 0, 0, _] cv (HE.row rfl (by simp) (HE.kill rfl HE.nil)) rfl fun j γ2 hi => ?_
 refine x2x fun K5 hK5 => ?_
 refine exA 4 rfl rfl (y8y rfl rfl q6q rfl v6v rfl hp (x1x 2 rfl rfl (z2z rfl r0r rfl (v1v rfl rfl rfl (y2y rfl ?_ ?_)))))<;>intro o<;>try simp at o
 ·obtain rfl : j = p.done.length := by omega
  refine z4z (hK4 _ _ (exG (x4x rfl (p7p rfl rfl rfl (x0x rfl ?_)))))
  exact ⟨i + 1, ⟨by omega, by omega⟩, [_, 0, 0, _], (y3y 3 rfl (Cov.cons' (t := 4) rfl (by rw [u2u (by omega) (by omega)]; rfl) Cov.nil)), cv, (HE.row rfl (by simp only [a6b hp, List.append_assoc, b0y, List.take_length]) (HE.kill rfl HE.nil)), hv, rfl⟩
 obtain ⟨q, hq⟩ := gE p.done j
 have hsp := d0h hp hq
 refine x7x (hK5 _ _ (x2x fun K7 hK7 => ?_))
 refine y0y (exG (x1x 4 rfl rfl (y8y rfl rfl q6q rfl v6v rfl hp (x1x 3 rfl rfl (y8y rfl rfl r0r rfl r5r rfl hq (x1x 2 rfl rfl ?_))))))
 refine s1s (zs := (n.kept ++ (n.lanes.take i).flatMap b0y ++ (p.done.take j).flatMap Pa.sends ++ q.sends).map v4v) rfl rfl u9u rfl u0u rfl rfl rfl (w3w (fun _ => rfl) _) (a9u _ _ _) (by have hb56 : T56.bytes = 56 := rfl; rw [List.length_map, hb56]; omega) ?_
 refine x0x rfl (hK7 _ _ (p2p 23 rfl fun hlen2 => ?_))
 refine exG (x4x rfl (p7p rfl rfl rfl (x0x rfl ?_)))
 exact ⟨j + 1, ⟨by omega, by omega⟩, [_, 0, 0, _], (y3y 3 rfl (Cov.cons' (t := 5) rfl (by rw [u2u (by omega) (by omega)]; rfl) Cov.nil)), cv, (HE.row rfl (by simp only [a6b hq, List.append_assoc]) (HE.kill rfl HE.nil)), hv, rfl⟩
end
section
theorem c4n (c c' : Bool) (l : La) (s : List Ev) : a1o Tryz.prog 291 [.agg (a0f c l), a1y c' s] (.pv (.bool (kb (b3k l s)))) := by
 refine pX Tryz.f291 [.pv (.bool (kb (b3k l s)))] 1 ?_
 refine exR (z7z (id := 0) rfl rfl rfl (x0x rfl (x2x fun K1 hK1 => ?_)))
 refine exR (x4x rfl (x9x rfl rfl rfl (a4o ..) (x9x rfl rfl rfl (a4j ..) (a1k rfl (x8x rfl ?_ ?_)))))<;>intro hc2<;>try simp at hc2
 ·try have hX : ¬ a8b okE a3m s 100 = true := by simpa using hc2
  refine exR (x0x rfl (x6x ⟨.inr rfl, ?_⟩))
  refine y6y rfl ?_ rfl
  exact congrArg (fun b : Bool => [AV.pv (.bool b)]) (a5s (fun h => hX h.1))
 have hA : a8b okE a3m s 100 = true := hc2
 refine x7x (hK1 _ _ (x2x fun K3 hK3 => ?_))
 refine exR (x0x rfl (y0y (p2p 1 rfl fun hlen => ?_)))
 refine z3z (ι := Nat) (fun i γ1 => [(5, pI (i : Int))]) (fun i γ1 => []) (fun i => i ≤ s.length ∧ c8y s (fun _ e => e.to = l.proc) i) (fun i => s.length - i) (cK [1, 2] rfl) (z0z 0 rfl HE.nil) 0 ⟨by omega, a2l⟩ [] cv hv rfl fun i γ1 hi => ?_
 obtain ⟨h1, h2⟩ := hi
 refine x2x fun K4 hK4 => ?_
 refine exA 2 rfl rfl (z2z rfl u9u rfl (v1v rfl rfl rfl (y2y rfl ?_ ?_)))<;>intro j<;>try simp at j
 ·have hall := a4b h2 (by omega)
  refine z4z (hK3 _ _ (exR (x0x rfl (x6x ⟨.inr rfl, ?_⟩))))
  refine y6y rfl ?_ rfl
  exact congrArg (fun b : Bool => [AV.pv (.bool b)]) (d7y ⟨hA, fun e he => by obtain ⟨i, hi⟩ := List.getElem?_of_mem he; exact hall i e hi⟩)
 obtain ⟨e, he⟩ := gE s i
 refine x7x (hK4 _ _ (x2x fun K6 hK6 => ?_))
 refine y0y (exD (x1x 2 rfl rfl (y8y rfl rfl u9u rfl u0u rfl he (x1x 5 rfl rfl ⟨by kernel_rfl, y2y rfl ?_ ?_⟩))))<;>intro j<;>try simp at j
 ·have hto : e.to = l.proc := by omega
  refine x7x (hK6 _ _ (exG (x4x rfl (z5z (b := 1) rfl rfl (by omega) (x0x rfl ?_)))))
  exact ⟨i + 1, ⟨⟨by omega, a0u h2 he hto⟩, by omega⟩, [], cv, cv, hv, hv, rfl⟩
 have hX : ¬ e.to = l.proc := by omega
 refine exR (x0x rfl (x6x ⟨.inr rfl, ?_⟩))
 refine y6y rfl ?_ rfl
 exact congrArg (fun b : Bool => [AV.pv (.bool b)]) (a5s (fun h => hX (h.2 e (List.mem_of_getElem? he))))
theorem b3y (c c' : Bool) (l : La) (s : List Ev) : a1o Tryz.prog 241 [.agg (a0f c l), a1y c' s] (.tup [.agg (v4v (b2t l s).1), .pv (.bool (b2t l s).2)]) := by
 refine pX Tryz.f241 [.agg (v4v (b2t l s).1), .pv (.bool (b2t l s).2)] 2 ?_
 have hsm := c7q l.done s
 refine exR (z7z (id := 0) rfl rfl rfl (y7y (id := 1) u0u a9t rfl (x0x rfl (x2x fun K1 hK1 => ?_))))
 refine exR (x5x rfl v6v rfl rfl rfl (x9x rfl rfl rfl (a4p ..) (x1x 2 rfl rfl (z6z rfl rfl ?_ ?_))))<;>intro hg2<;>try simp at hg2
 ·have fX : ¬ (a7h l = true ∧ b3k l s) := fun h => by have := h.1; simp_all
  refine x1x 4 rfl rfl (x8x rfl (fun hc8 => ?_) (fun hc8 => ?_))
  rotate_left
  ·simp at hc8
  try simp at hc8
  refine exR (rlB u0u a9t ?_)
  refine x3x rfl rfl u0u rfl rfl rfl rfl (x0x rfl (x6x ⟨.inr rfl, ?_⟩))
  (rw [d2v fX]; exact ⟨_, _, rfl, .agg rfl (.cl rfl (.cl rfl (.cl rfl (.cl rfl (.cl rfl (.cl rfl (.cl rfl .nil))))))) (.cl rfl .nil)⟩)
 have fL : a7h l = true := hg2
 refine x1x 2 rfl rfl (z1z rfl rfl (x9x rfl rfl rfl (c4n ..) (x1x 2 rfl rfl (x8x rfl ?_ ?_))))<;>intro hc3<;>try simp at hc3
 ·have fX : ¬ (a7h l = true ∧ b3k l s) := fun h => a0z (by simpa using hc3) h.2
  refine exR (rlB u0u a9t ?_)
  refine x3x rfl rfl u0u rfl rfl rfl rfl (x0x rfl (x6x ⟨.inr rfl, ?_⟩))
  (rw [d2v fX]; exact ⟨_, _, rfl, .agg rfl (.cl rfl (.cl rfl (.cl rfl (.cl rfl (.cl rfl (.cl rfl (.cl rfl .nil))))))) (.cl rfl .nil)⟩)
 have fF : a7h l = true ∧ b3k l s := ⟨fL, a1x.1 (by simpa using hc3)⟩
 refine x7x (hK1 _ _ (exA 2 rfl rfl (x9x rfl rfl rfl (b0c ..) (x0x rfl (x2x fun K4 hK4 => ?_)))))
 refine p2p 1 rfl fun hlen => ?_
 refine exA 3 rfl rfl (z2z rfl r0r rfl (x1x 2 rfl rfl (z6z rfl rfl ?_ ?_)))<;>intro j<;>try simp at j
 ·refine x1x 4 rfl rfl (x8x rfl (fun hc7 => ?_) (fun hc7 => ?_))
  rotate_left
  ·simp at hc7
  try simp at hc7
  refine exR (rlB u0u a9t ?_)
  refine x3x rfl rfl u0u rfl rfl rfl rfl (x0x rfl (x6x ⟨.inr rfl, ?_⟩))
  (rw [c2k fF, e9v (by omega)]; exact ⟨_, _, rfl, .agg rfl (.cl rfl (.cl rfl (.cl rfl (.cl rfl (.cl rfl (.cl rfl (.cl rfl .nil))))))) (.cl rfl .nil)⟩)
 refine x1x 2 rfl rfl (z1z rfl rfl (z2z rfl u9u rfl (x1x 2 rfl rfl (x8x rfl ?_ ?_))))<;>intro j<;>try simp at j
 ·refine exR (rlB u0u a9t ?_)
  refine x3x rfl rfl u0u rfl rfl rfl rfl (x0x rfl (x6x ⟨.inr rfl, ?_⟩))
  (rw [c2k fF, e9w (by omega)]; exact ⟨_, _, rfl, .agg rfl (.cl rfl (.cl rfl (.cl rfl (.cl rfl (.cl rfl (.cl rfl (.cl rfl .nil))))))) (.cl rfl .nil)⟩)
 have hlt : same l.done s < s.length := by omega
 obtain ⟨e, he⟩ : ∃ e, s[same l.done s]? = some e := ⟨_, List.getElem?_eq_getElem hlt⟩
 refine x7x (hK4 _ _ (exA 2 rfl rfl (y8y rfl rfl u9u rfl u0u rfl he ?_)))
 refine v9v (out := .agg (v4v e)) rfl u0u rfl ?_
 refine x3x rfl rfl u0u rfl rfl rfl rfl (x0x rfl (x6x ⟨.inr rfl, ?_⟩))
 (rw [c2k fF, e9x (by omega) he]; exact ⟨_, _, rfl, .agg rfl (.cl rfl (.cl rfl (.cl rfl (.cl rfl (.cl rfl (.cl rfl (.cl rfl .nil))))))) (.cl rfl .nil)⟩)
end
section
theorem a5c (c : Bool) (l : List Ou) (hl : l.length ≤ 1000000) : a1o Tryz.prog 112 [a0p c l] (a0p true (a1w l)) := by
 refine pX Tryz.f112 [a0p true (a1w l)] 6 ?_
 refine exR (x0x rfl (exR (z8z (id := 0) q8q rfl w8w rfl (x0x rfl (x2x fun K1 hK1 => ?_)))))
 refine exR (x0x rfl (y0y ?_))
 refine a1e (l := ([] : List Ou)) (f := a0c) 3 rfl rfl (fun _ => rfl) ?_
 refine z3z (ι := Nat) (fun i γ1 => [(3, a0p true (a1w (l.take i))), (4, pI (i : Int))]) (fun i γ1 => [(1, ((γ1 1), .dead)), (2, ((γ1 2), .dead)), (3, ((γ1 3), .dead)), (4, ((γ1 4), .dead)), (5, ((γ1 5), .dead))]) (fun i => i ≤ l.length) (fun i => l.length - i) (y3y 0 rfl Cov.nil) (z0z 0 rfl HE.nil) 0 (by omega) [0, _, _, _, _, _] (Cov.cons' (t := 3) rfl (by rw [List.take_zero]; rfl) (y3y 4 rfl Cov.nil)) hv rfl fun i γ1 hi => ?_
 refine x2x fun K2 hK2 => ?_
 refine exA 2 rfl rfl (z2z rfl q8q rfl (v1v rfl rfl rfl (y2y rfl ?_ ?_)))<;>intro h<;>try simp at h
 ·obtain rfl : i = l.length := by omega
  refine z4z (hK1 _ _ (exA 2 rfl rfl (x6x ⟨.inr rfl, ?_⟩)))
  refine y6y rfl ?_ rfl
  exact congrArg (fun l : List Ou => [a0p true l]) (by rw [List.take_length])
 obtain ⟨x, hx⟩ := gE l i
 have hol : (a1w (l.take i)).length ≤ 1000000 := by rw [b4s, List.length_take]; omega
 refine x7x (hK2 _ _ (x2x fun K4 hK4 => ?_))
 refine y0y (exR (x4x rfl (z2z rfl q8q rfl (x0x rfl ?_))))
 refine a0k (ι := Nat) (fun k γ2 => [(5, pI (k : Int))]) (fun k γ2 => []) (fun k => k ≤ (a1w (l.take i)).length ∧ (∀ (j : Nat) y, k ≤ j → (a1w (l.take i))[j]? = some y → b1u x y = true) ∧ (∀ y, 0 < k → (a1w (l.take i))[k - 1]? = some y → b1u x y = false)) (cK [0, 3, 4] rfl) (hK [0, 1, 2, 3, 4, 5] rfl) ?_ fun k γ2 hi => ?_
 ·refine y0y ?_
  refine z3z (ι := Nat) (fun k γ3 => [(5, pI (k : Int))]) (fun k γ3 => []) (fun k => k ≤ (a1w (l.take i)).length ∧ (∀ (j : Nat) y, k ≤ j → (a1w (l.take i))[j]? = some y → b1u x y = true)) (fun k => k) (cK [0, 3, 4] rfl) (hK [0, 1, 2, 3, 4, 5] rfl) (a1w (l.take i)).length ⟨Nat.le_refl _, fun j y hj hy => by have := (List.getElem?_eq_some_iff.1 hy).1; omega⟩ [] cv hv rfl fun k γ3 hi => ?_
  obtain ⟨k1, k2⟩ := hi
  refine x2x fun K5 hK5 => ?_
  refine exD (x1x 3 rfl rfl (z6z rfl rfl ?_ ?_))<;>intro h<;>try simp at h
  ·have k0 : k = 0 := by omega
   refine x1x 10 rfl rfl ⟨by kernel_rfl, x8x rfl (fun hc8 => ?_) (fun hc8 => ?_)⟩
   ·simp at hc8
   try simp at hc8
   try have hlt := hc8
   refine z4z ?_
   exact ⟨k, ⟨k1, k2, fun y2 h0 h2 => by omega⟩, [], cv, cv, hv, hv, rfl⟩
  have k0 : 0 < k := by omega
  obtain ⟨y, hy⟩ := gE (a1w (l.take i)) (k - 1)
  refine x1x 2 rfl rfl (z1z rfl rfl (y8y rfl rfl q8q rfl w8w rfl hx (x1x 3 rfl rfl (z1z rfl rfl (a0s (b := 1) rfl rfl (by omega) (by omega) (z1z rfl rfl (y8y rfl rfl q8q rfl w8w rfl hy (z1z rfl rfl (u4u rfl w8w rfl rfl (z1z rfl rfl (x9x rfl rfl rfl (b5n ..) (b1s rfl rfl ⟨by kernel_rfl, y2y rfl ?_ ?_⟩))))))))))))<;>intro hc7<;>try simp at hc7
  ·try have hlt := hc7
   refine z4z ?_
   exact ⟨k, ⟨k1, k2, fun y2 h0 h2 => by (rw [hy] at h2; cases h2; exact hlt)⟩, [], cv, cv, hv, hv, rfl⟩
  try have hlt := hc7
  refine x7x (hK5 _ _ (y0y (exG (x4x rfl (a0s (b := 1) rfl rfl (by omega) (by omega) (x0x rfl ?_))))))
  exact ⟨k - 1, ⟨⟨by omega, fun j y2 hj hy2 => by by_cases hjk : j = k - 1; (subst hjk; rw [hy] at hy2; cases hy2; exact hlt); exact k2 j y2 (by omega) hy2⟩, by omega⟩, [], cv, cv, hv, hv, rfl⟩
 ·try dsimp only [b3s, b3t]
  obtain ⟨c1, c2, c3⟩ := hi
  have hin := (d2x hx).trans (e9y f3a (e1c _) c2 c3 c1)
  refine exH (z8z (id := 1) q8q rfl w8w rfl (x1x 2 rfl rfl (c0t rfl q8q rfl w8w rfl rfl rfl (by omega) (by omega) (by omega) ?_)))
  refine s1s (zs := ((a1w (l.take i)).take k).map a0c) rfl rfl q8q rfl w8w rfl rfl rfl (w3w (fun _ => rfl) _) (by simp) (by (simp only [a0w, a0q, a0v, a0x, a1t, b3r, T141]; omega)) ?_
  refine x1x 2 rfl rfl (y8y rfl rfl q8q rfl w8w rfl hx (u4u rfl w8w rfl rfl (u5u (id := 3) q8q rfl w8w rfl rfl rfl rfl rfl rfl ?_)))
  refine u6u (zs := ((a1w (l.take i)).take k ++ [x]).map a0c) rfl rfl q8q rfl w8w rfl rfl rfl rfl (by rfl) (w7w _ _ _) (by (simp only [a0w, a0q, a0v, a0x, a1t, b3r, T141]; omega)) ?_
  refine x1x 2 rfl rfl (c0t rfl q8q rfl w8w rfl rfl rfl (by omega) (by (rw [List.length_map]; omega)) (by (rw [List.length_map]; omega)) ?_)
  refine a2o s3s (zs := ((a1w (l.take i)).take k ++ x :: (a1w (l.take i)).drop k).map a0c) rfl rfl q8q rfl w8w rfl rfl rfl (w3w (fun _ => rfl) _) (by simp) (by (simp only [a0w, a0q, a0v, a0x, a1t, b3r, T141]; omega)) (Le.ow_map _ (fun _ => rfl) (fun _ => rfl)) ?_
  refine x0x rfl ⟨by kernel_rfl, hK4 _ _ (exG (x4x rfl (z5z (b := 1) rfl rfl (by omega) (x0x rfl ?_))))⟩
  exact ⟨i + 1, ⟨by omega, by omega⟩, [0, _, _, _, _, _], (Cov.cons' (t := 3) rfl (by rw [hin]; rfl) (y3y 4 rfl Cov.nil)), cv, hv, hv, rfl⟩
end
section
theorem c4o (c : Bool) (l : La) : a1o Tryz.prog 31 [.agg (a0f c l)] (.agg (a2h (e8a l))) := by
 refine pX Tryz.f31 [.agg (a2h (e8a l))] 2 ?_
 refine exR (z7z (id := 0) rfl rfl rfl (y7y (id := 1) a0t c9n rfl (x2x fun K1 hK1 => ?_)))
 refine exR (x5x rfl v6v rfl rfl rfl (x9x rfl rfl rfl (a4p ..) (a1k rfl (x8x rfl ?_ ?_))))<;>intro hc2<;>try simp at hc2
 ·have fX : ¬ a7h l = true := by simpa using hc2
  refine exR (rlB a0t c9n ?_)
  refine x3x rfl rfl a0t rfl rfl rfl rfl (x6x ⟨.inr rfl, ?_⟩)
  (rw [f4c fX]; exact a9v rfl rfl rfl rfl)
 have fL : a7h l = true := hc2
 have hl1 := (a3v fL).1
 refine x7x (hK1 _ _ (x2x fun K3 hK3 => ?_))
 refine exA 2 rfl rfl (z2z rfl r0r rfl (v1v rfl rfl rfl (x8x rfl ?_ ?_)))<;>intro hc4<;>try simp at hc4
 ·have h0 : l.done.length = 0 := by (rw [hc4]; rfl)
  refine exR (y1y rfl v6v rfl rfl a0t rfl rfl ?_)
  refine v3v (out := .agg (a2h l.base)) rfl a0t rfl rfl ?_
  refine x3x rfl rfl a0t rfl rfl rfl rfl (x6x ⟨.inr rfl, ?_⟩)
  (rw [f4d fL h0]; exact a9v rfl rfl rfl rfl)
 have h1 : 0 < l.done.length := List.length_pos_iff.2 hc4
 obtain ⟨p, hp⟩ := gE l.done (l.done.length - 1)
 refine x7x (hK3 _ _ (exA 4 rfl rfl (z2z rfl r0r rfl (a0s (b := 1) rfl rfl (by omega) (by omega) (y8y rfl rfl r0r rfl r5r rfl hp (y1y rfl r5r rfl rfl a0t rfl rfl ?_))))))
 refine v9v (out := .agg (a2h p.after)) rfl a0t rfl ?_
 refine x3x rfl rfl a0t rfl rfl rfl rfl (x6x ⟨.inr rfl, ?_⟩)
 (rw [f4e fL hp]; exact a9v rfl rfl rfl rfl)
theorem b2n (c : Bool) (l : La) (f t : Nat) (hlen : l.done.length ≤ 1000000) (hf : f ≤ 1000000) (ht : t ≤ 1000000) (hb : ∀ p ∈ l.done, p.sends.length ≤ 1000000 ∧ p.outs.length ≤ 1000000) : Meth Tryz.prog 110 1 [] [.agg (a0f c l), .pv (.int .i64 (f : Int)), .pv (.int .i64 (t : Int))] [(0, (0, .dead))] (.agg [pI l.proc, pI l.base.x, pI l.base.y, pI l.base.count, .ref 0 0]) [(0, (0, .row 58 12 (((a2x l f t).done).map (a3l true))))] := by
 refine mX Tryz.f110 [.agg [pI l.proc, pI l.base.x, pI l.base.y, pI l.base.count, .ref 0 0]] 1 10 fun γ => ?_
 refine exR (z7z (id := 1) rfl rfl rfl (y7y (id := 2) v6v a7p rfl (exA 4 rfl rfl (rlB v6v a7p ?_))))
 refine y7y (id := 3) v6v a7p rfl (x3x rfl rfl v6v rfl rfl rfl rfl (x2x fun K1 hK1 => ?_))
 refine exA 2 rfl rfl (y0y (a0d 3 4 0 58 12 rfl rfl rfl rfl rfl ?_))
 refine z3z (ι := Nat) (fun i γ1 => [(8, pI (i : Int))]) (fun i γ1 => [(0, ((γ1 0), .row 58 12 (((l.done.take i).drop f).map (a3l true)))), (3, ((0 + 1), .box 44 [pI l.proc, pI l.base.x, pI l.base.y, pI l.base.count, .ref 0 (γ1 0)])), (4, ((γ1 4), .dead)), (5, ((γ1 5), .dead)), (6, ((γ1 6), .dead)), (7, ((γ1 7), .dead)), (8, ((γ1 8), .dead)), (9, ((γ1 9), .dead)), (10, ((γ1 10), .dead))]) (fun i => f ≤ i ∧ (i = f ∨ (i ≤ t ∧ i ≤ l.done.length))) (fun i => l.done.length - i) (cK [2, 3, 6, 7] rfl) (hK [1, 2] rfl) f ⟨Nat.le_refl _, .inl rfl⟩ [_, 0, 0, 0, _, _, _, _, _, _, _] cv (HE.row rfl (by rw [List.drop_of_length_le (by rw [List.length_take]; omega)]; rfl) (HE.box rfl rfl (HE.kill rfl (HE.kill rfl (HE.kill rfl (HE.kill rfl (HE.kill rfl (HE.kill rfl (HE.kill rfl HE.nil))))))))) rfl fun i γ1 hi => ?_
 obtain ⟨k1, k2⟩ := hi
 refine x2x fun K2 hK2 => ?_
 refine exA 4 rfl rfl (z6z rfl rfl ?_ ?_)<;>intro j<;>try simp at j
 ·refine x1x 5 rfl rfl (x8x rfl (fun hc6 => ?_) (fun hc6 => ?_))
  ·simp at hc6
  try simp at hc6
  have hfin : (l.done.take i).drop f = (l.done.take t).drop f := c7p k1 k2 (by omega)
  refine z4z (hK1 _ _ (exR (x5x rfl v6v rfl rfl rfl (x3x rfl rfl v6v rfl rfl rfl rfl (x6x ?_)))))
  exact ⟨.inr rfl, [_], rfl, rfl, HE.row rfl (by rw [hfin]; rfl) HE.nil⟩
 refine x1x 3 rfl rfl (z1z rfl rfl (z2z rfl r0r rfl (x1x 2 rfl rfl (y2y rfl ?_ ?_))))<;>intro j<;>try simp at j
 ·have hfin : (l.done.take i).drop f = (l.done.take t).drop f := c7p k1 k2 (by omega)
  refine z4z (hK1 _ _ (exR (x5x rfl v6v rfl rfl rfl (x3x rfl rfl v6v rfl rfl rfl rfl (x6x ?_)))))
  exact ⟨.inr rfl, [_], rfl, rfl, HE.row rfl (by rw [hfin]; rfl) HE.nil⟩
 obtain ⟨p, hp⟩ := gE l.done i
 have g1 : i < t := by omega
 obtain ⟨hps, hpo⟩ := hb p (List.mem_of_getElem? hp)
 refine x7x (hK2 _ _ (x2x fun K5 hK5 => ?_))
 refine y0y (exA 3 rfl rfl (y8y rfl rfl r0r rfl r5r rfl hp (u4u rfl r5r rfl rfl (y7y (id := 4) r5r c0e rfl (x3x rfl rfl r5r rfl rfl rfl rfl (exH (x1x 3 rfl rfl ?_)))))))
 refine v3v (out := .agg (v4v p.ev)) rfl u0u rfl rfl ?_
 refine y1y rfl r5r rfl rfl a0t rfl rfl ?_
 refine v3v (out := .agg (a2h p.after)) rfl a0t rfl rfl ?_
 refine z8z (id := 5) u9u rfl u0u rfl (x1x 2 rfl rfl ?_)
 refine a2o s3s (zs := (p.sends).map v4v) rfl rfl u9u rfl u0u rfl rfl rfl (w3w (fun _ => rfl) _) rfl (by (simp only [a0w, a0q, a0v, a0x, a1t, a3w, b3r, T56]; omega)) (Le.ow_map _ (fun _ => rfl) (fun _ => rfl)) ?_
 refine z8z (id := 7) q8q rfl w8w rfl (x1x 2 rfl rfl ?_)
 refine a2o s3s (zs := (p.outs).map a0c) rfl rfl q8q rfl w8w rfl rfl rfl (w3w (fun _ => rfl) _) rfl (by (simp only [a0w, a0q, a0v, a0x, a1t, a3w, b3r, T141]; omega)) (Le.ow_map _ (fun _ => rfl) (fun _ => rfl)) ?_
 refine rlB r5r c0e ?_
 refine u5u (id := 9) r0r rfl r5r rfl rfl rfl rfl rfl rfl ?_
 refine u6u (zs := ((l.done.take i).drop f ++ [p]).map (a3l true)) rfl rfl r0r rfl r5r rfl rfl rfl rfl (by rfl) (w7w _ _ _) (by (simp only [a0w, a0q, a0v, a0x, a1t, a3w, b3r, T58]; omega)) ?_
 refine y1y rfl v6v rfl rfl r0r rfl rfl (y9y rfl rfl r0r rfl rfl rfl rfl rfl (by simp only [a0y]; rfl) ?_)
 refine ⟨by kernel_rfl, hK5 _ _ (exG (x4x rfl (z5z (b := 1) rfl rfl (by omega) (x0x rfl ?_))))⟩
 exact ⟨i + 1, ⟨⟨by omega, .inr ⟨by omega, by omega⟩⟩, by omega⟩, [_, 0, 0, 0, _, _, _, _, _, _, _], cv, cv, (HE.row rfl (by rw [w0w hp, List.drop_append_of_le_length (by rw [List.length_take]; omega)]) (HE.box rfl rfl (HE.kill rfl (HE.kill rfl (HE.kill rfl (HE.kill rfl (HE.kill rfl (HE.kill rfl (HE.kill rfl HE.nil))))))))), hv, rfl⟩
theorem c3k (a : Ap) (l : La) (s : List Ev) (hA : e2c a) (hL : a7h l = true) : MethE Tryz.prog 328 0 [.agg (c0h true a), .agg (a0f true l), a1y true s] [] (ι := La × Bool) (fun S' => S'.2 = true → ∃ p, S'.1 = a3h l p ∧ l.done.length < 100 ∧ paB p) (fun S' => []) (fun S' => .tup [.agg (a0f true S'.1), .pv (.bool (S'.2))]) (fun S' => []) := by
 refine mE (ι := La × Bool) Tryz.f328 (fun S' => [.agg (a0f true S'.1), .pv (.bool (S'.2))]) 0 10 fun γ => ?_
 have hb : ∀ r ∈ a.rules, r.ops.length ≤ 1048576 := fun r hr => by obtain ⟨i, hi⟩ := List.getElem?_of_mem hr; have := (hA.2 i r hi).2.1.2.1; omega
 have hlb := e9r hL
 refine exR (z7z (id := 0) rfl rfl rfl (z7z (id := 1) rfl rfl rfl (y7y (id := 2) v6v a7p rfl (x0x rfl (exA 2 rfl rfl (x9x rfl rfl rfl (b3y true true l s) (x1x 3 rfl rfl (y7y (id := 3) u0u a9t rfl (x3x rfl rfl u0u rfl rfl rfl rfl (x0x rfl (x2x fun K1 hK1 => ?_)))))))))))
 refine exA 3 rfl rfl (z6z rfl rfl ?_ ?_)<;>intro hg2<;>try simp at hg2
 ·refine x1x 7 rfl rfl (x8x rfl (fun hc6 => ?_) (fun hc6 => ?_))
  rotate_left
  ·simp at hc6
  try simp at hc6
  refine x2x fun K7 hK7 => ?_
  refine exR (x5x rfl v6v rfl rfl rfl (x9x rfl rfl rfl (a4p ..) (a1k rfl (x8x rfl ?_ ?_))))<;>intro hc8<;>try simp at hc8
  ·exact absurd hL (by simpa using hc8)
  refine x7x (hK7 _ _ (exA 3 rfl rfl (z2z rfl r0r rfl (x9x rfl rfl rfl (a6e true l hlb) (x3x rfl rfl v6v rfl rfl rfl rfl (x0x rfl ?_))))))
  skip
  refine x6x ?_
  exact ⟨.inr rfl, (l, false), (by intro h; simp at h), [], rfl, rfl, hv⟩
 have hok : (b2t l s).2 = true := hg2
 refine x5x rfl a2f rfl rfl rfl (z1z rfl rfl (rlB a2f b5c ?_))
 refine z1z rfl rfl (rlB a2f b5c ?_)
 refine z1z rfl rfl (rlB a2f b5c ?_)
 refine z1z rfl rfl ?_
 refine a0l (id := 4) b3c rfl a2f rfl rfl rfl rfl (.val rfl rfl (.val rfl rfl (.val rfl rfl (.val rfl rfl .nil)))) rfl (a1d rfl) (a1d rfl) (a1d rfl) rfl rfl ?_
 refine z1z rfl rfl ?_
 refine b6c rfl rfl rfl (.ref rfl (e3f a) .nil) (a9p false (f1v a) (by intro x hx; simp only [f1v, List.mem_cons, List.not_mem_nil, or_false] at hx; rcases hx with rfl | rfl | rfl | rfl <;> first | exact hb | (intro r hr; cases hr))) (.pv _) ?_
 refine x1x 2 rfl rfl (x8x rfl ?_ ?_)<;>intro j<;>try simp at j
 ·refine x2x fun K4 hK4 => ?_
  refine exR (x5x rfl v6v rfl rfl rfl (x9x rfl rfl rfl (a4p ..) (a1k rfl (x8x rfl ?_ ?_))))<;>intro hc5<;>try simp at hc5
  ·exact absurd hL (by simpa using hc5)
  refine x7x (hK4 _ _ (exA 3 rfl rfl (z2z rfl r0r rfl (x9x rfl rfl rfl (a6e true l hlb) (x3x rfl rfl v6v rfl rfl rfl rfl (x0x rfl ?_))))))
  skip
  refine x6x ?_
  exact ⟨.inr rfl, (l, false), (by intro h; simp at h), [], rfl, rfl, hv⟩
 have hroom := e3d hok
 refine x7x (hK1 _ _ (d3h 4 (b5i s3s 0 4 rfl rfl ?_)))
 refine x1x 2 rfl rfl (x9x rfl rfl rfl (c4o true l) (x5x rfl u0u rfl rfl rfl (b5i s3s 9 1 rfl rfl ?_)))
 refine y7y (id := 5) a0t c9n rfl (b6o c4g (by rfl) [] [] (c8m a (e8a l) (b2t l s).1 hb) rfl rfl rfl rfl (by decide) rfl rfl (by repeat (exact InH.nil)) (fun _ => (by (simp only [pI, a2q, a2r, b8m, gl, nx, a6t, Nat.beq]; rfl))) (fun _ => (by (simp only [pI, a2q, a2r, b8m, gl, nx, a6t, Nat.beq]; rfl))) ⟨⟨0, 0, 0⟩, [], []⟩ ⟨Nat.zero_le _, Nat.zero_le _, fun q h => by cases h⟩ fun r hr => ?_)
 obtain ⟨r1, r2, r3⟩ := hr
 refine b5j s3s 5 4 rfl rfl ?_
 refine x1x 4 rfl rfl (b5j s3s 10 3 rfl rfl ?_)
 refine x3x rfl rfl a0t rfl rfl rfl rfl (x1x 2 rfl rfl (c3b (by kernel_rfl) ?_))
 refine exA 3 rfl rfl (z2z rfl r0r rfl ?_)
 refine rlM [9] [_] (b2n true l 0 l.done.length hlb.1 (by omega) hlb.1 hlb.2) rfl rfl rfl ?_
 refine y7y (id := 6) v6v a7p rfl (x3x rfl rfl v6v rfl rfl rfl rfl ?_)
 rw [b6i]
 refine exD (x1x 5 rfl rfl (x9x rfl rfl rfl (a2k true r.sends (by omega)) ?_))
 refine x4x rfl (x9x rfl rfl rfl (a5c true r.outs (by omega)) ?_)
 refine rlB r5r c0e ?_
 refine u5u (id := 7) r0r rfl r5r rfl rfl rfl rfl rfl rfl ?_
 refine u6u (zs := (l.done ++ [(⟨(b2t l s).1, r.s, p8p r.sends, a1w r.outs⟩ : Pa)]).map (a3l true)) rfl rfl r0r rfl r5r rfl rfl rfl rfl (by rfl) (w7w (a3l true) l.done (⟨(b2t l s).1, r.s, p8p r.sends, a1w r.outs⟩ : Pa)) (by (simp only [a0w, a0q, a0v, a0x, a1t, a3w, b3r, T58]; omega)) ?_
 refine y1y rfl v6v rfl rfl r0r rfl rfl (y9y rfl rfl r0r rfl rfl rfl rfl rfl (by simp only [a0y]; rfl) ?_)
 refine ⟨by kernel_rfl, exR (x5x rfl v6v rfl rfl rfl (x3x rfl rfl v6v rfl rfl rfl rfl (x0x rfl ?_)))⟩
 refine w9w (b := b2y true (l.done ++ [(⟨(b2t l s).1, r.s, p8p r.sends, a1w r.outs⟩ : Pa)])) 2 4 rfl rfl rfl (.ref rfl (Le.ow_map _ (fun _ => rfl) (fun _ => rfl)) .nil) rfl rfl rfl rfl ?_
 refine x6x ?_
 exact ⟨.inr rfl, (a3h l (⟨(b2t l s).1, r.s, p8p r.sends, a1w r.outs⟩ : Pa), true), (fun _ => ⟨(⟨(b2t l s).1, r.s, p8p r.sends, a1w r.outs⟩ : Pa), rfl, hroom, f1l r1 r2 r3⟩), [], rfl, rfl, hv⟩
theorem c4p (n : Nd) (q : Int) (hl4 : n.lanes.length ≤ 1000000) : MethE Tryz.prog 327 0 [.agg (w6w true n), .pv (.int .i64 q)] [] (ι := Int) (fun S' => S' = -1 ∨ ∃ (i : Nat) (l : La), S' = (i : Int) ∧ n.lanes[i]? = some l ∧ l.proc = q) (fun S' => []) (fun S' => .pv (.int .i64 S')) (fun S' => []) := by
 refine mE (ι := Int) Tryz.f327 (fun S' => [.pv (.int .i64 S')]) 0 1 fun γ => ?_
 refine exR (z7z (id := 0) rfl rfl rfl (x0x rfl (x2x fun K1 hK1 => ?_)))
 refine exR (x0x rfl (y0y ?_))
 refine z3z (ι := Nat) (fun i γ1 => [(5, pI (i : Int))]) (fun i γ1 => []) (fun i => i ≤ n.lanes.length) (fun i => n.lanes.length - i) (cK [1, 2] rfl) (z0z 0 rfl HE.nil) 0 (by omega) [] cv hv rfl fun i γ1 hi => ?_
 refine x2x fun K2 hK2 => ?_
 refine exA 3 rfl rfl (z2z rfl q6q rfl (v1v rfl rfl rfl (y2y rfl ?_ ?_)))<;>intro j<;>try simp at j
 ·refine z4z (hK1 _ _ (exR (x0x rfl (x6x ?_))))
  exact ⟨.inr rfl, -1, .inl rfl, [], rfl, rfl, hv⟩
 obtain ⟨l, hl⟩ := gE n.lanes i
 refine x7x (hK2 _ _ (x2x fun K4 hK4 => ?_))
 refine y0y (exA 3 rfl rfl (y8y rfl rfl q6q rfl v6v rfl hl (x1x 4 rfl rfl (x8x rfl ?_ ?_))))<;>intro hc5<;>try simp at hc5
 ·have hq : l.proc = q := hc5
  refine exA 2 rfl rfl (x6x ?_)
  exact ⟨.inr rfl, (i : Int), .inr ⟨i, l, rfl, hl, hq⟩, [], rfl, rfl, hv⟩
 refine x7x (hK4 _ _ (exG (x4x rfl (z5z (b := 1) rfl rfl (by omega) (x0x rfl ?_)))))
 exact ⟨i + 1, ⟨by omega, by omega⟩, [], cv, cv, hv, hv, rfl⟩
end
section
theorem b3z (id : Int) : a1o Tryz.prog 147 [.pv (.int .i64 id)] (.row (.rd true) 44 5 ((a0b id 4).map fun p => a0f true (b2r p))) := by
 refine pX Tryz.f147 [.row (.rd true) 44 5 ((a0b id 4).map fun p => a0f true (b2r p))] 3 ?_
 have hpl := fun k => a5z id k
 refine exR (x0x rfl (exR (z8z (id := 0) q6q rfl v6v rfl (x0x rfl (x2x fun K1 hK1 => ?_)))))
 refine exR (x0x rfl (y0y ?_))
 refine z3z (ι := Nat) (fun i γ1 => [(3, .ref 0 (γ1 0)), (4, pI (i : Int))]) (fun i γ1 => [(0, ((γ1 0), .row 44 5 ((a0b id i).map e1q))), (1, ((γ1 1), .dead)), (2, ((γ1 2), .dead))]) (fun i => i ≤ 4) (fun i => 4 - i) (y3y 0 rfl Cov.nil) HE.nil 0 (by omega) [_, _, _] cv hv rfl fun i γ1 hi => ?_
 refine x2x fun K2 hK2 => ?_
 refine exA 2 rfl rfl (y2y rfl ?_ ?_)<;>intro h<;>try simp at h
 ·refine z4z (hK1 _ _ (exA 2 rfl rfl (x6x ⟨.inr rfl, ?_⟩)))
  refine e4k rfl rfl e1r ?_
  have : i = 4 := by omega
  rw [this]
 refine x7x (hK2 _ _ (x2x fun K4 hK4 => ?_))
 refine y0y (exR (x4x rfl (x9x rfl rfl rfl (a2n ..) (x1x 2 rfl rfl (y2y rfl ?_ ?_)))))<;>intro h<;>try simp at h
 ·refine x7x (hK4 _ _ (exG (x4x rfl (p7p rfl rfl rfl (x0x rfl ?_)))))
  exact ⟨i + 1, ⟨by omega, by omega⟩, [_, _, _], (y3y 3 rfl (Cov.cons' (t := 4) rfl (by rw [u2u (by omega) (by omega)]; rfl) Cov.nil)), cv, (HE.row rfl (by simp only [a8l]; rw [if_neg (by assumption)]) (HE.kill rfl (HE.kill rfl HE.nil))), hv, rfl⟩
 refine exG (x1x 2 rfl rfl (rlB v6v a7p ?_))
 refine u5u (id := 1) q6q rfl v6v rfl rfl rfl rfl rfl rfl ?_
 have := hpl i
 refine u6u (zs := (a0b id i ++ [(i : Int)]).map e1q) rfl rfl q6q rfl v6v rfl rfl rfl rfl (by rfl) (w7w _ _ _) (by (simp only [a0w, a0q, a0v, a0x, a1t, a3w, T44]; omega)) ?_
 refine x0x rfl (hK4 _ _ (exG (x4x rfl (p7p rfl rfl rfl (x0x rfl ?_)))))
 exact ⟨i + 1, ⟨by omega, by omega⟩, [_, _, _], (y3y 3 rfl (Cov.cons' (t := 4) rfl (by rw [u2u (by omega) (by omega)]; rfl) Cov.nil)), cv, (HE.row rfl (by simp only [a8l]; rw [if_pos (by assumption)]) (HE.kill rfl (HE.kill rfl HE.nil))), hv, rfl⟩
theorem b6t (c : Bool) (l : La) : a1o Tryz.prog 110 [.agg (a0f c l), .pv (.int .i64 0), .pv (.int .i64 0)] (.agg (a0f true (p1p l))) := by
 refine pX Tryz.f110 [.agg (a0f true (p1p l))] 10 ?_
 refine exR (z7z (id := 0) rfl rfl rfl (y7y (id := 1) v6v a7p rfl (exA 4 rfl rfl (rlB v6v a7p ?_))))
 refine y7y (id := 2) v6v a7p rfl (x3x rfl rfl v6v rfl rfl rfl rfl (x2x fun K1 hK1 => ?_))
 refine exA 2 rfl rfl (y0y ?_)
 refine z3z (ι := Nat) (fun i γ1 => [(8, pI 0)]) (fun i γ1 => [(3, ((γ1 3), .dead)), (4, ((γ1 4), .dead)), (5, ((γ1 5), .dead)), (6, ((γ1 6), .dead)), (7, ((γ1 7), .dead)), (8, ((γ1 8), .dead)), (9, ((γ1 9), .dead))]) (fun i => True) (fun i => 0) (cK [2, 3, 6, 7] rfl) (hK [0, 1, 2] rfl) 0 trivial [0, 0, 0, _, _, _, _, _, _, _] cv hv rfl fun i γ1 hi => ?_
 refine x2x fun K2 hK2 => ?_
 refine exA 4 rfl rfl (d6q rfl rfl (fun hg3 => ?_) (fun hg3 => ?_))
 ·simp at hg3
 try simp at hg3
 refine x1x 5 rfl rfl (x8x rfl (fun hc5 => ?_) (fun hc5 => ?_))
 ·simp at hc5
 try simp at hc5
 refine z4z (hK1 _ _ (exR (x5x rfl v6v rfl rfl rfl (x3x rfl rfl v6v rfl rfl rfl rfl (x6x ⟨.inr rfl, ?_⟩)))))
 exact ⟨_, _, rfl, .agg rfl (.cl rfl (.cl rfl (.cl rfl (.cl rfl (.le rfl .nil .nil))))) .nil⟩
theorem c3l (c : Bool) (n : Nd) (hl : n.lanes.length ≤ 1000000000) (hk : n.kept.length ≤ 1000000000) (ho : n.outs.length ≤ 1000000000) : a1o Tryz.prog 155 [.agg (w6w c n)] (.agg (w6w true (s8s n))) := by
 refine pX Tryz.f155 [.agg (w6w true (s8s n))] 16 ?_
 refine exR (z7z (id := 0) rfl rfl rfl (y7y (id := 1) y5y s5s rfl (exD (x1x 8 rfl rfl (z8z (id := 2) u9u rfl u0u rfl (x1x 2 rfl rfl ?_))))))
 refine s1s (zs := n.kept.map v4v) rfl rfl u9u rfl u0u rfl rfl rfl (w3w (fun _ => rfl) _) rfl (by (simp only [a0w, a0q, a0v, a0x, a1t, a3w, T56]; omega)) ?_
 refine z8z (id := 4) q8q rfl w8w rfl (x1x 2 rfl rfl ?_)
 refine s1s (zs := n.outs.map a0c) rfl rfl q8q rfl w8w rfl rfl rfl (w3w (fun _ => rfl) _) rfl (by (simp only [a0w, a0q, a0v, a0x, a1t, a3w, T141]; omega)) ?_
 refine x1x 2 rfl rfl (rlB y5y s5s ?_)
 refine y7y (id := 6) y5y s5s rfl (x3x rfl rfl y5y rfl rfl rfl rfl ⟨by kernel_rfl, x2x fun K1 hK1 => ?_⟩)
 refine exR (x0x rfl (y0y (a0d 6 4 13 44 5 rfl rfl rfl rfl rfl ?_)))
 refine z3z (ι := Nat) (fun i γ1 => [(4, pI (i : Int))]) (fun i γ1 => [(13, ((γ1 13), .row 44 5 (((n.lanes.take i).map p1p).map (a0f true)))), (6, ((0 + 1), .box 65 [pI n.id, .pv (.bool n.up), pI n.inc, pI n.g, .ref 13 (γ1 13), .ref 2 2, .ref 4 2, pI n.led, pI 0, .pv (.slice none 0 0), .pv (.slice none 0 0), pI 0, pI 41])), (7, ((γ1 7), .dead)), (8, ((γ1 8), .dead))]) (fun i => i ≤ n.lanes.length) (fun i => n.lanes.length - i) (cK [1, 2, 3] rfl) (hK [0, 1, 2, 3, 4, 5, 9, 10, 11, 12, 14, 15] rfl) 0 (by omega) [0, 0, 0, 0, 0, 0, 0, _, _, 0, 0, 0, 0, _] cv (HE.row rfl (by rw [List.take_zero]; rfl) (HE.box rfl rfl (HE.kill rfl (HE.kill rfl HE.nil)))) rfl fun i γ1 hi => ?_
 refine x2x fun K2 hK2 => ?_
 refine exA 3 rfl rfl (z2z rfl q6q rfl (v1v rfl rfl rfl (x8x rfl ?_ ?_)))<;>intro h<;>try simp at h
 ·refine x7x (hK2 _ _ (x2x fun K4 hK4 => ?_))
  refine y0y (exH (x1x 5 rfl rfl ?_))
  obtain ⟨a, ha⟩ := gE n.lanes i
  refine y8y rfl rfl q6q rfl v6v rfl ha (u4u rfl v6v rfl rfl (x9x rfl rfl rfl (b6t c a) (u5u (id := 7) q6q rfl v6v rfl rfl rfl rfl rfl rfl ?_)))
  refine u6u (zs := ((n.lanes.take i).map p1p ++ [p1p a]).map (a0f true)) rfl rfl q6q rfl v6v rfl rfl rfl rfl (by rfl) (w7w _ _ _) (by (simp only [a0w, a0q, a0v, a0x, a1t, a3w, T44]; omega)) ?_
  refine y1y rfl y5y rfl rfl q6q rfl rfl (y9y rfl rfl q6q rfl rfl rfl rfl rfl (by simp only [a0y]; rfl) ?_)
  refine ⟨by kernel_rfl, hK4 _ _ (exG (x4x rfl (p7p rfl rfl rfl (x0x rfl ?_))))⟩
  exact ⟨i + 1, ⟨by omega, by omega⟩, [0, 0, 0, 0, 0, 0, 0, _, _, 0, 0, 0, 0, _], (Cov.cons' (t := 4) rfl (by rw [u2u (by omega) (by omega)]; rfl) Cov.nil), cv, (HE.row rfl (by simp only [w0w ha, List.map_append, List.map_cons, List.map_nil]) (HE.box rfl rfl (HE.kill rfl (HE.kill rfl HE.nil)))), hv, rfl⟩
 obtain rfl : i = n.lanes.length := by omega
 refine z4z (hK1 _ _ (x2x fun K5 hK5 => ?_))
 refine exR (x0x rfl (y0y (a0d 6 9 14 190 3 rfl rfl rfl rfl rfl (a0d 6 10 15 3 1 rfl rfl rfl rfl rfl ?_))))
 refine z3z (ι := Nat) (fun i γ2 => [(5, pI (i : Int))]) (fun i γ2 => [(14, ((γ2 14), .row 190 3 ((List.range i).map fun _ => a7j))), (15, ((γ2 15), .row 3 1 ((List.range i).map fun _ => a6c 0))), (6, ((0 + 1), .box 65 [pI n.id, .pv (.bool n.up), pI n.inc, pI n.g, .ref 13 (γ1 13), .ref 2 2, .ref 4 2, pI n.led, pI 0, .ref 14 (γ2 14), .ref 15 (γ2 15), pI 0, pI 41])), (9, ((γ2 9), .dead)), (10, ((γ2 10), .dead)), (11, ((γ2 11), .dead)), (12, ((γ2 12), .dead))]) (fun i => i ≤ 3) (fun i => 3 - i) (cK [2, 3] rfl) (hK [0, 1, 2, 3, 4, 5, 7, 8, 13] rfl) 0 (by omega) [0, 0, 0, 0, 0, 0, 0, 0, 0, _, _, _, _, 0, _, _] cv hv rfl fun i γ2 hi => ?_
 refine x2x fun K6 hK6 => ?_
 refine exA 2 rfl rfl (y2y rfl ?_ ?_)<;>intro h<;>try simp at h
 ·obtain rfl : i = 3 := by omega
  rw [List.take_length]
  refine z4z (hK5 _ _ (exR (x5x rfl y5y rfl rfl rfl (x3x rfl rfl y5y rfl rfl rfl rfl (x6x ⟨.inr rfl, ?_⟩)))))
  exact ⟨_, _, rfl, .agg rfl (.cl rfl (.cl rfl (.cl rfl (.cl rfl (.ref rfl (Le.ow_map _ (fun _ => rfl) (fun _ => rfl)) (.ref rfl (Le.ow_map _ (fun _ => rfl) (fun _ => rfl)) (.ref rfl (Le.ow_map _ (fun _ => rfl) (fun _ => rfl)) (.cl rfl (.cl rfl (.ref rfl (Le.ow_map2 (f := fun _ => a7j) (f' := fun _ => a4g true vi0) (List.range 3) (fun _ => rfl) (fun _ => .cons (.cl rfl) (.cons (.cl rfl) (.cons .nil .nil)))) (.ref rfl (Le.ow_map (f := fun _ => a6c 0) (List.range 3) (fun _ => rfl) (fun _ => rfl)) (.cl rfl (.cl rfl .nil))))))))))))) .nil⟩
 refine x7x (hK6 _ _ (x2x fun K8 hK8 => ?_))
 refine y0y (exA 2 rfl rfl (rlB p0p a7w ?_))
 refine u5u (id := 9) s6s rfl p0p rfl rfl rfl rfl rfl rfl ?_
 refine u6u (zs := (List.range i).map (fun _ => a7j) ++ [a7j]) rfl rfl s6s rfl p0p rfl rfl rfl rfl (by rfl) rfl (by (simp only [a0w, a0q, a0v, a0x, a1t, a3w, T190]; omega)) ?_
 refine y1y rfl y5y rfl rfl s6s rfl rfl (y9y rfl rfl s6s rfl rfl rfl rfl rfl (by simp only [a0y]; rfl) ?_)
 refine exG (x1x 2 rfl rfl (b0s (id := 11) q1q rfl q5q rfl rfl rfl rfl rfl ?_))
 refine u6u (zs := (List.range i).map (fun _ => a6c 0) ++ [a6c 0]) rfl rfl q1q rfl q5q rfl rfl rfl rfl (by rfl) rfl (by (simp only [a0w, a0q, a0v, a0x, a1t, a3w, T3]; omega)) ?_
 refine y1y rfl y5y rfl rfl q1q rfl rfl (y9y rfl rfl q1q rfl rfl rfl rfl rfl (by simp only [a0y]; rfl) ?_)
 refine hK8 _ _ (exG (x4x rfl (p7p rfl rfl rfl (x0x rfl ?_))))
 exact ⟨i + 1, ⟨by omega, by omega⟩, [0, 0, 0, 0, 0, 0, 0, 0, 0, _, _, _, _, 0, _, _], (Cov.cons' (t := 5) rfl (by rw [u2u (by omega) (by omega)]; rfl) Cov.nil), cv, (HE.row rfl (by rw [List.range_succ, List.map_append]; rfl) (HE.row rfl (by rw [List.range_succ, List.map_append]; rfl) (HE.box rfl rfl (HE.kill rfl (HE.kill rfl (HE.kill rfl (HE.kill rfl HE.nil))))))), hv, rfl⟩
theorem c0j (id : Int) : a1o Tryz.prog 89 [.pv (.int .i64 id)] (.agg (w6w true (a2w id))) := by
 refine pX Tryz.f89 [.agg (w6w true (a2w id))] 5 ?_
 have hpl := a5z id 4
 refine exR (y7y (id := 0) y5y s5s rfl (x2x fun K1 hK1 => ?_))
 refine exR (x4x rfl (x9x rfl rfl rfl (u8u ..) (a1k rfl (x8x rfl ?_ ?_))))<;>intro hc2<;>try simp at hc2
 ·have hns : a2w id = nd0 := if_neg (by omega)
  refine exR (rlB y5y s5s ?_)
  refine x3x rfl rfl y5y rfl rfl rfl rfl (x6x ⟨.inr rfl, ?_⟩)
  exact ⟨_, _, rfl, .agg rfl (by rw [hns]; exact .cl rfl (.cl rfl (.cl rfl (.cl rfl (.le rfl .nil (.le rfl .nil (.le rfl .nil (.cl rfl (.cl rfl (.le rfl .nil (.le rfl .nil (.cl rfl (.cl rfl .nil))))))))))))) .nil⟩
 have hin : 0 ≤ id ∧ id ≤ 2 := hc2
 have hns : a2w id = ⟨id, true, 1, 0, (a0b id 4).map b2r, p8p ((a0b id 4).map a2e), [], 0, 1, [vi0, vi0, vi0], [0, 0, 0], 0, 41⟩ := if_pos hin
 have hnb : ({ s8s ⟨id, true, 1, 0, (a0b id 4).map b2r, (a0b id 4).map a2e, [], 0, 0, [], [], 0, 0⟩ with version := 1 } : Nd) = a2w id := by rw [hns, c2e hin]; simp only [s8s, List.map_map]; rfl
 refine x7x (hK1 _ _ (exA 2 rfl rfl (x9x rfl rfl rfl (b3z ..) (rlB y5y s5s ?_))))
 refine y7y (id := 1) y5y s5s rfl (x3x rfl rfl y5y rfl rfl rfl rfl (x2x fun K3 hK3 => ?_))
 refine exR (x0x rfl (y0y (a0d 1 5 4 56 7 rfl rfl rfl rfl rfl ?_)))
 refine z3z (ι := Nat) (fun i γ1 => [(4, pI (i : Int))]) (fun i γ1 => [(4, ((γ1 4), .row 56 7 ((((a0b id 4).take i).map a2e).map v4v))), (1, ((0 + 1), .box 65 [pI id, .pv (.bool true), pI 1, pI 0, .row (.rd true) 44 5 ((a0b id 4).map fun p => a0f true (b2r p)), .ref 4 (γ1 4), .pv (.slice none 0 0), pI 0, pI 0, .pv (.slice none 0 0), .pv (.slice none 0 0), pI 0, pI 0])), (2, ((γ1 2), .dead)), (3, ((γ1 3), .dead))]) (fun i => i ≤ (a0b id 4).length) (fun i => (a0b id 4).length - i) (cK [2, 3] rfl) (z0z 0 rfl HE.nil) 0 (by omega) [0, 0, _, _, _] cv (HE.row rfl (by rw [List.take_zero]; rfl) (HE.box rfl rfl (HE.kill rfl (HE.kill rfl HE.nil)))) rfl fun i γ1 hi => ?_
 refine x2x fun K4 hK4 => ?_
 refine exA 3 rfl rfl (z2z rfl q6q rfl (v1v rfl rfl rfl (y2y rfl ?_ ?_)))<;>intro h<;>try simp at h
 ·obtain rfl : i = (a0b id 4).length := by omega
  rw [List.take_length]
  refine z4z (hK3 _ _ ?_)
  refine w9w (b := a1y true ((a0b id 4).map a2e)) 1 5 rfl rfl rfl (.ref rfl (Le.ow_map _ (fun _ => rfl) (fun _ => rfl)) .nil) rfl rfl rfl rfl ?_
  refine w9w (b := a0p true []) 1 6 rfl rfl rfl (.le rfl .nil .nil) rfl rfl rfl rfl ?_
  refine w9w (b := b9h true []) 1 9 rfl rfl rfl (.le rfl .nil .nil) rfl rfl rfl rfl ?_
  refine w9w (b := a4l true []) 1 10 rfl rfl rfl (.le rfl .nil .nil) rfl rfl rfl rfl ?_
  rw [show (AV.row (.rd true) 44 5 ((a0b id 4).map fun p => a0f true (b2r p))) = b8a true ((a0b id 4).map b2r) from by rw [b8a, List.map_map]; rfl]
  refine exR (x5x rfl y5y rfl rfl rfl (x9x rfl rfl rfl (c3l true ⟨id, true, 1, 0, (a0b id 4).map b2r, (a0b id 4).map a2e, [], 0, 0, [], [], 0, 0⟩ (by rw [List.length_map]; omega) (by rw [List.length_map]; omega) (by simp)) ?_))
  refine x3x rfl rfl y5y rfl rfl rfl rfl (exR (y1y rfl y5y rfl rfl q5q rfl rfl (y9y rfl rfl q5q rfl rfl rfl rfl rfl (by simp only [a0y]; rfl) ?_)))
  refine exR (x5x rfl y5y rfl rfl rfl (x3x rfl rfl y5y rfl rfl rfl rfl (x6x ⟨.inr rfl, ?_⟩)))
  exact a9v (cs := w6w true { s8s ⟨id, true, 1, 0, (a0b id 4).map b2r, (a0b id 4).map a2e, [], 0, 0, [], [], 0, 0⟩ with version := 1 }) rfl (by rw [hnb]) rfl rfl
 obtain ⟨p, hp⟩ := gE (a0b id 4) i
 refine x7x (hK4 _ _ (x2x fun K6 hK6 => ?_))
 refine y0y (exH (x1x 5 rfl rfl (y8y rfl rfl q6q rfl v6v rfl hp (x1x 2 rfl rfl (x9x rfl rfl rfl (c3i ..) (u5u (id := 2) u9u rfl u0u rfl rfl rfl rfl rfl rfl ?_))))))
 refine u6u (zs := (((a0b id 4).take i).map a2e ++ [a2e p]).map v4v) rfl rfl u9u rfl u0u rfl rfl rfl rfl (by rfl) (w7w _ _ _) (by (simp only [a0w, a0q, a0v, a0x, a1t, a3w, T56]; omega)) ?_
 refine y1y rfl y5y rfl rfl u9u rfl rfl (y9y rfl rfl u9u rfl rfl rfl rfl rfl (by simp only [a0y]; rfl) ?_)
 refine ⟨by kernel_rfl, hK6 _ _ (exG (x4x rfl (p7p rfl rfl rfl (x0x rfl ?_))))⟩
 exact ⟨i + 1, ⟨by omega, by omega⟩, [0, 0, _, _, _], (Cov.cons' (t := 4) rfl (by rw [u2u (by omega) (by omega)]; rfl) Cov.nil), cv, (HE.row rfl (by simp only [w0w hp, List.map_append, List.map_cons, List.map_nil]) (HE.box rfl rfl (HE.kill rfl (HE.kill rfl HE.nil)))), hv, rfl⟩
end
section
theorem c0k (c : Bool) (n : Nd) : a1o Tryz.prog 233 [.agg (w6w c n)] (.pv (.bool (decide (a8q n)))) := by
 refine pX Tryz.f233 [.pv (.bool (decide (a8q n)))] 1 ?_
 refine exR (z7z (id := 0) rfl rfl rfl (x0x rfl (exA 2 rfl rfl (x9x rfl rfl rfl (c8i ..) (x4x rfl (z6z rfl rfl ?_ ?_))))))<;>intro u<;>try simp at u
 ·refine x1x 29 rfl rfl (x6x ⟨.inr rfl, ?_⟩)
  refine y6y rfl ?_ rfl
  exact kF (by unfold a8q; omega)
 refine x1x 2 rfl rfl (z1z rfl rfl (x9x rfl rfl rfl (p5p ..) (x1x 2 rfl rfl (z6z rfl rfl ?_ ?_))))<;>intro u<;>try simp at u
 ·refine x1x 24 rfl rfl (x6x ⟨.inr rfl, ?_⟩)
  refine y6y rfl ?_ rfl
  exact kF (by unfold a8q; omega)
 refine x1x 2 rfl rfl (z1z rfl rfl (x9x rfl rfl rfl (p5p ..) (x1x 2 rfl rfl (z6z rfl rfl ?_ ?_))))<;>intro u<;>try simp at u
 ·refine x1x 19 rfl rfl (x6x ⟨.inr rfl, ?_⟩)
  refine y6y rfl ?_ rfl
  exact kF (by unfold a8q; omega)
 refine x1x 2 rfl rfl (z1z rfl rfl (x9x rfl rfl rfl (p5p ..) (x1x 2 rfl rfl (z6z rfl rfl ?_ ?_))))<;>intro u<;>try simp at u
 ·refine x1x 14 rfl rfl (x6x ⟨.inr rfl, ?_⟩)
  refine y6y rfl ?_ rfl
  exact kF (by unfold a8q; omega)
 refine x1x 2 rfl rfl (z1z rfl rfl (x9x rfl rfl rfl (p5p ..) (x1x 2 rfl rfl (z6z rfl rfl ?_ ?_))))<;>intro u<;>try simp at u
 ·refine x1x 9 rfl rfl (x6x ⟨.inr rfl, ?_⟩)
  refine y6y rfl ?_ rfl
  exact kF (by unfold a8q; omega)
 refine x1x 2 rfl rfl (z1z rfl rfl (x9x rfl rfl rfl (p5p ..) (x1x 2 rfl rfl (z6z rfl rfl ?_ ?_))))<;>intro u<;>try simp at u
 ·refine x1x 4 rfl rfl (x6x ⟨.inr rfl, ?_⟩)
  refine y6y rfl ?_ rfl
  exact kF (by unfold a8q; omega)
 refine x1x 2 rfl rfl (z1z rfl rfl (x9x rfl rfl rfl (p5p ..) (x1x 2 rfl rfl (x6x ⟨.inr rfl, ?_⟩))))
 refine y6y rfl ?_ rfl
 exact congrArg (fun b : Bool => [AV.pv (.bool b)]) (decide_eq_decide.2 (by unfold a8q; omega))
theorem w5w  : a1o Tryz.prog 143 [] (.pv (.int .i64 9999)) := by
 refine pX Tryz.f143 [.pv (.int .i64 9999)] 0 ?_
 refine exR (x0x rfl (exR (x0x rfl (x6x ⟨.inr rfl, ?_⟩))))
 exact y6y rfl rfl rfl
theorem b2o (c : Bool) (v : Vi) : a1o Tryz.prog 168 [.agg (a4g c v)] (.pv (.bool (kb (d4y v)))) := by
 refine pX Tryz.f168 [.pv (.bool (kb (d4y v)))] 1 ?_
 refine exR (z7z (id := 0) rfl rfl rfl (x0x rfl (exD (x1x 2 rfl rfl (x9x rfl rfl rfl (w5w ..) (x9x rfl rfl rfl (u8u ..) (x4x rfl (z6z rfl rfl ?_ ?_))))))))<;>intro u<;>try simp at u
 ·refine x1x 11 rfl rfl ⟨by kernel_rfl, x6x ⟨.inr rfl, ?_⟩⟩
  refine y6y rfl ?_ rfl
  exact congrArg (fun b : Bool => [AV.pv (.bool b)]) (a5s (fun h => by obtain ⟨q1, q2, q3⟩ := h; omega))
 refine x1x 2 rfl rfl (z1z rfl rfl (x9x rfl rfl rfl (w5w ..) (z1z rfl rfl (x9x rfl rfl rfl (u8u ..) (x1x 2 rfl rfl (z6z rfl rfl ?_ ?_))))))<;>intro u<;>try simp at u
 ·refine x1x 5 rfl rfl ⟨by kernel_rfl, x6x ⟨.inr rfl, ?_⟩⟩
  refine y6y rfl ?_ rfl
  exact congrArg (fun b : Bool => [AV.pv (.bool b)]) (a5s (fun h => by obtain ⟨q1, q2, q3⟩ := h; omega))
 refine x1x 2 rfl rfl (z1z rfl rfl (x9x rfl rfl rfl (a4o ..) (z1z rfl rfl (x9x rfl rfl rfl (a4j ..) (x1x 2 rfl rfl ⟨by kernel_rfl, x6x ⟨.inr rfl, ?_⟩⟩)))))
 refine y6y rfl ?_ rfl
 exact congrArg (fun b : Bool => [AV.pv (.bool b)]) (e9o ⟨fun h => ⟨by omega, by omega, h⟩, fun h => h.2.2⟩)
theorem c3m (c : Bool) (n : Nd) : a1o Tryz.prog 146 [.agg (w6w c n)] (.pv (.bool (kb (a9w n)))) := by
 refine b0q s3s (fn := Tryz.f146) (by kernel_rfl) (by kernel_rfl) rfl (outs := [.pv (.bool (kb (a9w n)))]) (by rfl) (a1d rfl) 1 ?_
 refine exR (z7z (id := 0) rfl rfl rfl (x0x rfl (x2x fun K1 hK1 => ?_)))
 refine exD (x1x 2 rfl rfl (z2z rfl s6s rfl (x1x 2 rfl rfl (z6z rfl rfl ?_ ?_))))<;>intro u<;>try simp at u
 ·refine x1x 24 rfl rfl ⟨by kernel_rfl, x8x rfl (fun hc17 => ?_) (fun hc17 => ?_)⟩
  rotate_left
  ·simp at hc17
  try simp at hc17
  refine exR (x0x rfl (x6x ⟨.inr rfl, ?_⟩))
  refine y6y rfl ?_ rfl
  exact congrArg (fun b : Bool => [AV.pv (.bool b)]) (a5s (fun h => by obtain ⟨q1, q2, q3, q4, q5, q6⟩ := h; omega))
 refine x1x 2 rfl rfl (z1z rfl rfl (z2z rfl q1q rfl (x1x 3 rfl rfl (z6z rfl rfl ?_ ?_))))<;>intro u<;>try simp at u
 ·refine x1x 18 rfl rfl ⟨by kernel_rfl, x8x rfl (fun hc16 => ?_) (fun hc16 => ?_)⟩
  rotate_left
  ·simp at hc16
  try simp at hc16
  refine exR (x0x rfl (x6x ⟨.inr rfl, ?_⟩))
  refine y6y rfl ?_ rfl
  exact congrArg (fun b : Bool => [AV.pv (.bool b)]) (a5s (fun h => by obtain ⟨q1, q2, q3, q4, q5, q6⟩ := h; omega))
 refine x1x 2 rfl rfl (z1z rfl rfl (x9x rfl rfl rfl (w5w ..) (z1z rfl rfl (x9x rfl rfl rfl (u8u ..) (x1x 3 rfl rfl (z6z rfl rfl ?_ ?_))))))<;>intro u<;>try simp at u
 ·refine x1x 11 rfl rfl ⟨by kernel_rfl, x8x rfl (fun hc15 => ?_) (fun hc15 => ?_)⟩
  rotate_left
  ·simp at hc15
  try simp at hc15
  refine exR (x0x rfl (x6x ⟨.inr rfl, ?_⟩))
  refine y6y rfl ?_ rfl
  exact congrArg (fun b : Bool => [AV.pv (.bool b)]) (a5s (fun h => by obtain ⟨q1, q2, q3, q4, q5, q6⟩ := h; omega))
 refine x1x 2 rfl rfl (z1z rfl rfl (x9x rfl rfl rfl (w5w ..) (z1z rfl rfl (x9x rfl rfl rfl (u8u ..) (x1x 3 rfl rfl (z6z rfl rfl ?_ ?_))))))<;>intro u<;>try simp at u
 ·refine x1x 4 rfl rfl ⟨by kernel_rfl, x8x rfl (fun hc14 => ?_) (fun hc14 => ?_)⟩
  rotate_left
  ·simp at hc14
  try simp at hc14
  refine exR (x0x rfl (x6x ⟨.inr rfl, ?_⟩))
  refine y6y rfl ?_ rfl
  exact congrArg (fun b : Bool => [AV.pv (.bool b)]) (a5s (fun h => by obtain ⟨q1, q2, q3, q4, q5, q6⟩ := h; omega))
 refine x1x 2 rfl rfl (z1z rfl rfl (x9x rfl rfl rfl (u8u ..) (x1x 2 rfl rfl ⟨by kernel_rfl, x8x rfl ?_ ?_⟩)))<;>intro u<;>try simp at u
 ·refine exR (x0x rfl (x6x ⟨.inr rfl, ?_⟩))
  refine y6y rfl ?_ rfl
  exact congrArg (fun b : Bool => [AV.pv (.bool b)]) (a5s (fun h => by obtain ⟨q1, q2, q3, q4, q5, q6⟩ := h; omega))
 have hL : n.views.length = 3 ∧ n.known.length = 3 ∧ (0 ≤ n.version ∧ n.version ≤ 9999) ∧ (0 ≤ n.round ∧ n.round ≤ 9999) ∧ (0 ≤ n.low ∧ n.low ≤ 41) := by omega
 refine x7x (hK1 _ _ (x2x fun K7 hK7 => ?_))
 refine exR (x0x rfl (y0y ?_))
 refine z3z (ι := Nat) (fun i γ1 => [(3, pI (i : Int))]) (fun i γ1 => []) (fun i => i ≤ 3 ∧ c8y n.views (fun j v => ∀ k, n.known[j]? = some k → d4y v ∧ 0 ≤ k ∧ k ≤ 41) i) (fun i => 3 - i) (y3y 1 rfl Cov.nil) (z0z 0 rfl HE.nil) 0 ⟨by omega, a2l⟩ [] cv hv rfl fun i γ1 hi => ?_
 obtain ⟨h1, h2⟩ := hi
 refine x2x fun K8 hK8 => ?_
 refine exA 2 rfl rfl (y2y rfl ?_ ?_)<;>intro u<;>try simp at u
 ·obtain rfl : i = 3 := by omega
  refine z4z (hK7 _ _ (exR (x0x rfl (x6x ⟨.inr rfl, ?_⟩))))
  refine y6y rfl ?_ rfl
  exact congrArg (fun b : Bool => [AV.pv (.bool b)]) (d7y ⟨hL.1, hL.2.1, hL.2.2.1, hL.2.2.2.1, hL.2.2.2.2, fun i v k a b => a4b h2 (by omega) i v a k b⟩)
 obtain ⟨v, hv⟩ := gE n.views i
 obtain ⟨k, hk⟩ := gE n.known i
 refine x7x (hK8 _ _ (x2x fun K10 hK10 => ?_))
 refine y0y (exA 3 rfl rfl (y8y rfl rfl s6s rfl p0p rfl (by assumption) ?_))
 refine u4u rfl p0p rfl rfl (x9x rfl rfl rfl (b2o ..) (x1x 2 rfl rfl (z6z rfl rfl ?_ ?_)))<;>intro hg11<;>try simp at hg11
 ·have hbad : ¬ d4y v := a0z (by simpa using hg11)
  refine x1x 7 rfl rfl (x8x rfl (fun hc13 => ?_) (fun hc13 => ?_))
  rotate_left
  ·simp at hc13
  try simp at hc13
  refine exR (x0x rfl (x6x ⟨.inr rfl, ?_⟩))
  refine y6y rfl ?_ rfl
  exact congrArg (fun b : Bool => [AV.pv (.bool b)]) (a5s (fun h => hbad (h.2.2.2.2.2 _ _ _ hv hk).1))
 have hvo : d4y v := a1x.1 (by simpa using hg11)
 refine x1x 3 rfl rfl (z1z rfl rfl (y8y rfl rfl q1q rfl q5q rfl (by assumption) ?_))
 refine z1z rfl rfl (v9v rfl q5q rfl (z1z rfl rfl (x9x rfl rfl rfl (u8u ..) (x1x 2 rfl rfl (y2y rfl ?_ ?_)))))<;>intro u<;>try simp at u
 ·refine x7x ?_
  refine hK10 _ _ ?_
  refine exG ?_
  refine x4x rfl ?_
  refine z5z (b := 1) rfl rfl (by omega) ?_
  refine x0x rfl ?_
  exact ⟨i + 1, ⟨⟨by omega, a0u h2 hv (fun k2 hk2 => by rw [hk] at hk2; cases hk2; exact ⟨hvo, by omega⟩)⟩, by omega⟩, [], (y3y 3 rfl Cov.nil), (y3y 1 rfl Cov.nil), HE.nil, (z0z 0 rfl HE.nil), rfl⟩
 refine exR (x0x rfl (x6x ⟨.inr rfl, ?_⟩))
 refine y6y rfl ?_ rfl
 exact congrArg (fun b : Bool => [AV.pv (.bool b)]) (a5s (fun h => by have := (h.2.2.2.2.2 _ _ _ hv hk).2; omega))
theorem c4q (c : Bool) (n : Nd) : a1o Tryz.prog 129 [.agg (w6w c n)] (.pv (.bool (kb (a2p n)))) := by
 refine b0q s3s (fn := Tryz.f129) (by kernel_rfl) (by kernel_rfl) rfl (outs := [.pv (.bool (kb (a2p n)))]) (by rfl) (a1d rfl) 4 ?_
 refine exR (z7z (id := 0) rfl rfl rfl (x0x rfl (x2x fun K1 hK1 => ?_)))
 refine exR (x5x rfl y5y rfl rfl rfl (x9x rfl rfl rfl (c0k ..) (x1x 2 rfl rfl (z6z rfl rfl ?_ ?_))))<;>intro hg2<;>try simp at hg2
 ·have hX : ¬ a8q n := hg2
  refine x1x 10 rfl rfl (x8x rfl (fun hc33 => ?_) (fun hc33 => ?_))
  rotate_left
  ·simp at hc33
  try simp at hc33
  try have hX : ¬ a8b okO b1u n.outs 96 = true := by first | exact hc33 | simpa using hc33
  refine exR (x0x rfl (x6x ⟨.inr rfl, ?_⟩))
  refine y6y rfl ?_ rfl
  exact congrArg (fun b : Bool => [AV.pv (.bool b)]) (a5s (fun h => by obtain ⟨q1, q2, q3, q4, q5, q6, q7, q8, q9⟩ := h; exact hX q1))
 have hA1 : a8q n := hg2
 refine x1x 2 rfl rfl (z1z rfl rfl (x9x rfl rfl rfl (a8u ..) (x1x 3 rfl rfl (z6z rfl rfl ?_ ?_))))<;>intro hg3<;>try simp at hg3
 ·have hX : ¬ a8b okE a3m n.kept 100 = true := by simpa using hg3
  refine x1x 4 rfl rfl (x8x rfl (fun hc32 => ?_) (fun hc32 => ?_))
  rotate_left
  ·simp at hc32
  try simp at hc32
  try have hX : ¬ a8b okO b1u n.outs 96 = true := by first | exact hc32 | simpa using hc32
  refine exR (x0x rfl (x6x ⟨.inr rfl, ?_⟩))
  refine y6y rfl ?_ rfl
  exact congrArg (fun b : Bool => [AV.pv (.bool b)]) (a5s (fun h => by obtain ⟨q1, q2, q3, q4, q5, q6, q7, q8, q9⟩ := h; exact hX q2))
 have hA2 : a8b okE a3m n.kept 100 = true := hg3
 refine x1x 2 rfl rfl (z1z rfl rfl (x9x rfl rfl rfl (b8e ..) (x1x 2 rfl rfl (x8x rfl ?_ ?_))))<;>intro hc4<;>try simp at hc4
 ·try have hX : ¬ a8b okO b1u n.outs 96 = true := by simpa using hc4
  refine exR (x0x rfl (x6x ⟨.inr rfl, ?_⟩))
  refine y6y rfl ?_ rfl
  exact congrArg (fun b : Bool => [AV.pv (.bool b)]) (a5s (fun h => by obtain ⟨q1, q2, q3, q4, q5, q6, q7, q8, q9⟩ := h; exact hX q3))
 have hA3 : a8b okO b1u n.outs 96 = true := hc4
 refine x7x (hK1 _ _ (x2x fun K5 hK5 => ?_))
 refine exA 2 rfl rfl (z2z rfl q8q rfl (x4x rfl (y0y (p2p 27 rfl fun hlen0 => ?_))))
 refine z3z (ι := Nat) (fun i γ1 => [(29, pI (i : Int))]) (fun i γ1 => [(1, ((γ1 1), .dead))]) (fun i => i ≤ n.outs.length ∧ c8y n.outs (fun _ o => o.time < n.g) i) (fun i => n.outs.length - i) (cK [1, 27, 28] rfl) (hK [0, 2, 3] rfl) 0 ⟨by omega, a2l⟩ [0, _] cv hv rfl fun i γ1 hi => ?_
 obtain ⟨a1, a2⟩ := hi
 refine exR (v1v rfl rfl rfl (x2x fun K6 hK6 => ?_))
 refine x8x rfl ?_ ?_<;>intro u<;>try simp at u
 ·obtain ⟨o, ho⟩ := gE n.outs i
  refine x7x (hK6 _ _ (x2x fun K8 hK8 => ?_))
  refine y0y (exR (y8y rfl rfl q8q rfl w8w rfl (by assumption) ?_))
  refine u4u rfl w8w rfl rfl (y7y (id := 1) w8w c5n rfl (x3x rfl rfl w8w rfl rfl rfl rfl (exA 5 rfl rfl (y2y rfl ?_ ?_))))<;>intro u<;>try simp at u
  ·have hlt : o.time < n.g := by omega
   refine x7x (hK8 _ _ (exG (z5z (b := 1) rfl rfl (by omega) (x4x rfl ?_))))
   exact ⟨i + 1, ⟨⟨by omega, a0u a2 ho hlt⟩, by omega⟩, [0, _], cv, cv, hv, hv, rfl⟩
  have hX : ¬ o.time < n.g := by omega
  refine exR (x0x rfl (x6x ⟨.inr rfl, ?_⟩))
  refine y6y rfl ?_ rfl
  exact congrArg (fun b : Bool => [AV.pv (.bool b)]) (a5s (fun h => by obtain ⟨q1, q2, q3, q4, q5, q6, q7, q8, q9⟩ := h; exact hX (q4 _ _ ho)))
 have hO : ∀ (i : Nat) o, n.outs[i]? = some o → o.time < n.g := a4b a2 (by omega)
 refine z4z (hK5 _ _ (exA 2 rfl rfl (x9x rfl rfl rfl (b0a ..) (x0x rfl (x2x fun K10 hK10 => ?_)))))
 refine exA 2 rfl rfl (z2z rfl q6q rfl (x4x rfl (z2z rfl q1q rfl (x1x 2 rfl rfl (z6z rfl rfl ?_ ?_)))))<;>intro u<;>try simp at u
 ·refine x1x 10 rfl rfl (x8x rfl (fun hc31 => ?_) (fun hc31 => ?_))
  rotate_left
  ·simp at hc31
  try simp at hc31
  refine exR (x0x rfl (x6x ⟨.inr rfl, ?_⟩))
  refine y6y rfl ?_ rfl
  exact congrArg (fun b : Bool => [AV.pv (.bool b)]) (a5s (fun h => by obtain ⟨q1, q2, q3, q4, q5, q6, q7, q8, q9⟩ := h; omega))
 refine x1x 2 rfl rfl (z1z rfl rfl (z2z rfl s6s rfl (x1x 3 rfl rfl (z6z rfl rfl ?_ ?_))))<;>intro u<;>try simp at u
 ·refine x1x 4 rfl rfl (x8x rfl (fun hc30 => ?_) (fun hc30 => ?_))
  rotate_left
  ·simp at hc30
  try simp at hc30
  refine exR (x0x rfl (x6x ⟨.inr rfl, ?_⟩))
  refine y6y rfl ?_ rfl
  exact congrArg (fun b : Bool => [AV.pv (.bool b)]) (a5s (fun h => by obtain ⟨q1, q2, q3, q4, q5, q6, q7, q8, q9⟩ := h; omega))
 refine x1x 2 rfl rfl (z1z rfl rfl (z2z rfl q1q rfl (x1x 2 rfl rfl (x8x rfl ?_ ?_))))<;>intro u<;>try simp at u
 ·refine exR (x0x rfl (x6x ⟨.inr rfl, ?_⟩))
  refine y6y rfl ?_ rfl
  exact congrArg (fun b : Bool => [AV.pv (.bool b)]) (a5s (fun h => by obtain ⟨q1, q2, q3, q4, q5, q6, q7, q8, q9⟩ := h; omega))
 have hL : n.lanes.length = (a0b n.id 4).length ∧ n.views.length = 3 ∧ n.known.length = 3 := by omega
 refine x7x (hK10 _ _ (x2x fun K14 hK14 => ?_))
 refine exA 2 rfl rfl (z2z rfl q6q rfl (x4x rfl (y0y (p2p 61 rfl fun hlen1 => ?_))))
 refine z3z (ι := Nat) (fun j γ2 => [(63, pI (j : Int))]) (fun j γ2 => [(2, ((γ2 2), .dead))]) (fun j => j ≤ n.lanes.length ∧ c8y n.lanes (fun j l => (a0b n.id 4)[j]? = some l.proc ∧ a7h l = true) j) (fun j => n.lanes.length - j) (cK [1, 5, 61, 62] rfl) (hK [0, 1, 3] rfl) 0 ⟨by omega, a2l⟩ [0, 0, _] cv hv rfl fun j γ2 hi => ?_
 obtain ⟨b1, b2⟩ := hi
 refine exR (v1v rfl rfl rfl (x2x fun K15 hK15 => ?_))
 refine x8x rfl ?_ ?_<;>intro u<;>try simp at u
 ·obtain ⟨l, hl⟩ := gE n.lanes j
  obtain ⟨q, hq⟩ := gE (a0b n.id 4) j
  refine x7x (hK15 _ _ (x2x fun K17 hK17 => ?_))
  refine y0y (exR (x4x rfl (y8y rfl rfl q6q rfl v6v rfl (by assumption) ?_)))
  refine u4u rfl v6v rfl rfl (y7y (id := 2) v6v a7p rfl (x0x rfl (x3x rfl rfl v6v rfl rfl rfl rfl (exD (x1x 4 rfl rfl (y8y rfl rfl q1q rfl q5q rfl (by assumption) ?_))))))
  refine x1x 3 rfl rfl (z6z rfl rfl ?_ ?_)<;>intro hg18<;>try simp at hg18
  ·have hX : ¬ l.proc = q := hg18
   refine x1x 3 rfl rfl ⟨by kernel_rfl, x8x rfl (fun hc20 => ?_) (fun hc20 => ?_)⟩
   rotate_left
   ·simp at hc20
   try simp at hc20
   try have hX : ¬ a7h l = true := by first | exact hc20 | simpa using hc20
   refine exR (x0x rfl (x6x ⟨.inr rfl, ?_⟩))
   refine y6y rfl ?_ rfl
   exact congrArg (fun b : Bool => [AV.pv (.bool b)]) (a5s (fun h => by obtain ⟨q1, q2, q3, q4, q5, q6, q7, q8, q9⟩ := h; have := (q8 _ _ hl).1; rw [hq] at this; exact hX (Option.some.inj this).symm))
  have hpe : l.proc = q := hg18
  refine x5x rfl v6v rfl rfl rfl (z1z rfl rfl (x9x rfl rfl rfl (c8o ..) (x1x 2 rfl rfl ⟨by kernel_rfl, y2y rfl ?_ ?_⟩)))<;>intro hc19<;>try simp at hc19
  ·have hlo : a7h l = true := hc19
   refine x7x (hK17 _ _ (exG (z5z (b := 1) rfl rfl (by omega) (x4x rfl ?_))))
   exact ⟨j + 1, ⟨⟨by omega, a0u b2 hl ⟨by rw [hq, hpe], hlo⟩⟩, by omega⟩, [0, 0, _], cv, cv, hv, hv, rfl⟩
  try have hX : ¬ a7h l = true := by simpa using hc19
  refine exR (x0x rfl (x6x ⟨.inr rfl, ?_⟩))
  refine y6y rfl ?_ rfl
  exact congrArg (fun b : Bool => [AV.pv (.bool b)]) (a5s (fun h => by obtain ⟨q1, q2, q3, q4, q5, q6, q7, q8, q9⟩ := h; exact hX (q8 _ _ hl).2))
 have hN : e5b n := a4b b2 (by omega)
 refine z4z (hK14 _ _ (x2x fun K21 hK21 => ?_))
 refine exA 2 rfl rfl (z2z rfl s6s rfl (x4x rfl (y0y (p2p 82 rfl fun hlen2 => ?_))))
 refine z3z (ι := Nat) (fun k γ3 => [(84, pI (k : Int))]) (fun k γ3 => [(3, ((γ3 3), .dead))]) (fun k => k ≤ n.views.length ∧ c8y n.views (fun j v => ∀ k, n.known[j]? = some k → d4y v ∧ 0 ≤ k ∧ k ≤ 41) k) (fun k => n.views.length - k) (cK [1, 82, 83] rfl) (hK [0, 1, 2] rfl) 0 ⟨by omega, a2l⟩ [0, 0, 0, _] cv hv rfl fun k γ3 hi => ?_
 obtain ⟨c1, c2⟩ := hi
 refine exR (v1v rfl rfl rfl (x2x fun K22 hK22 => ?_))
 refine y2y rfl ?_ ?_<;>intro u<;>try simp at u
 ·have hV : e0s n := fun i v k0 a b => a4b c2 (by omega) i v a k0 b
  refine z4z (hK21 _ _ (exR (x0x rfl (x6x ⟨.inr rfl, ?_⟩))))
  refine y6y rfl ?_ rfl
  exact congrArg (fun b : Bool => [AV.pv (.bool b)]) (d7y ⟨hA1, hA2, hA3, hO, hL.1, hL.2.1, hL.2.2, hN, hV⟩)
 obtain ⟨v, hv⟩ := gE n.views k
 obtain ⟨k0, hk⟩ := gE n.known k
 refine x7x (hK22 _ _ (x2x fun K24 hK24 => ?_))
 refine y0y (exR (x4x rfl (y8y rfl rfl s6s rfl p0p rfl (by assumption) ?_)))
 refine u4u rfl p0p rfl rfl (y7y (id := 3) p0p a7w rfl (x0x rfl (x3x rfl rfl p0p rfl rfl rfl rfl ?_)))
 refine a0k (ι := Unit) (fun _i γ4 => [(10, .pv (.bool (kb (d4y v))))]) (fun _i γ4 => []) (fun _i => True) (cK [1, 8, 82, 83, 84] rfl) (hK [0, 1, 2, 3] rfl) ?_ fun _i γ4 hi => ?_
 ·refine exG (x1x 2 rfl rfl (x9x rfl rfl rfl (p5p ..) (x4x rfl (z6z rfl rfl ?_ ?_))))<;>intro u<;>try simp at u
  ·refine d8y rfl rfl ?_
   refine d8y rfl rfl ?_
   refine c6r rfl rfl ?_
   refine x4x rfl ?_
   refine d8y rfl rfl ?_
   refine d8y rfl rfl ?_
   refine d8y rfl rfl ?_
   refine c6r rfl rfl ?_
   refine x0x rfl ?_
   exact ⟨(), trivial, [], (Cov.cons' (t := 10) rfl (by exact congrArg (fun b : Bool => AV.pv (.bool b)) (a5s (fun h => by obtain ⟨q1, q2, q3⟩ := h; omega))) Cov.nil), (y3y 1 rfl (y3y 8 rfl (y3y 82 rfl (y3y 83 rfl (y3y 84 rfl Cov.nil))))), HE.nil, (z0z 0 rfl (z0z 1 rfl (z0z 2 rfl (z0z 3 rfl HE.nil)))), rfl⟩
  refine x1x 2 rfl rfl (z1z rfl rfl (x9x rfl rfl rfl (p5p ..) (x1x 2 rfl rfl (z6z rfl rfl ?_ ?_))))<;>intro u<;>try simp at u
  ·refine x1x 4 rfl rfl ?_
   exact ⟨(), trivial, [], (Cov.cons' (t := 10) rfl (by exact congrArg (fun b : Bool => AV.pv (.bool b)) (a5s (fun h => by obtain ⟨q1, q2, q3⟩ := h; omega))) Cov.nil), (y3y 1 rfl (y3y 8 rfl (y3y 82 rfl (y3y 83 rfl (y3y 84 rfl Cov.nil))))), HE.nil, (z0z 0 rfl (z0z 1 rfl (z0z 2 rfl (z0z 3 rfl HE.nil)))), rfl⟩
  refine x1x 2 rfl rfl ?_
  refine z1z rfl rfl ?_
  refine x9x rfl rfl rfl (a8u ..) ?_
  refine x1x 2 rfl rfl ?_
  exact ⟨(), trivial, [], (Cov.cons' (t := 10) rfl (by exact congrArg (fun b : Bool => AV.pv (.bool b)) (e9o ⟨fun h => ⟨by omega, by omega, h⟩, fun h => h.2.2⟩)) Cov.nil), (y3y 1 rfl (y3y 8 rfl (y3y 82 rfl (y3y 83 rfl (y3y 84 rfl Cov.nil))))), HE.nil, (z0z 0 rfl (z0z 1 rfl (z0z 2 rfl (z0z 3 rfl HE.nil)))), rfl⟩
 ·try dsimp only [b3s, b3t]
  refine exA 3 rfl rfl (z6z rfl rfl ?_ ?_)<;>intro hg27<;>try simp at hg27
  ·have hX : ¬ d4y v := a0z (by simpa using hg27)
   refine x1x 7 rfl rfl (x8x rfl (fun hc29 => ?_) (fun hc29 => ?_))
   rotate_left
   ·simp at hc29
   try simp at hc29
   refine exR (x0x rfl (x6x ⟨.inr rfl, ?_⟩))
   refine y6y rfl ?_ rfl
   exact congrArg (fun b : Bool => [AV.pv (.bool b)]) (a5s (fun h => by obtain ⟨q1, q2, q3, q4, q5, q6, q7, q8, q9⟩ := h; exact hX (q9 _ _ _ hv hk).1))
  have hvo : d4y v := a1x.1 (by simpa using hg27)
  refine x1x 3 rfl rfl (z1z rfl rfl (y8y rfl rfl q1q rfl q5q rfl (by assumption) ?_))
  refine z1z rfl rfl (v9v rfl q5q rfl (z1z rfl rfl (x9x rfl rfl rfl (p5p ..) (z1z rfl rfl (a1k rfl (c6r rfl rfl (y2y rfl ?_ ?_)))))))<;>intro u<;>try simp at u
  ·refine x7x ?_
   refine hK24 _ _ ?_
   refine exG ?_
   refine z5z (b := 1) rfl rfl (by omega) ?_
   refine x4x rfl ?_
   exact ⟨k + 1, ⟨⟨by omega, a0u c2 hv (fun k2 hk2 => by rw [hk] at hk2; cases hk2; exact ⟨hvo, by omega⟩)⟩, by omega⟩, [0, 0, 0, _], (y3y 84 rfl Cov.nil), (y3y 1 rfl (y3y 82 rfl (y3y 83 rfl Cov.nil))), (HE.kill rfl HE.nil), (z0z 0 rfl (z0z 1 rfl (z0z 2 rfl HE.nil))), rfl⟩
  refine exR (x0x rfl (x6x ⟨.inr rfl, ?_⟩))
  refine y6y rfl ?_ rfl
  exact congrArg (fun b : Bool => [AV.pv (.bool b)]) (a5s (fun h => by obtain ⟨q1, q2, q3, q4, q5, q6, q7, q8, q9⟩ := h; have := (q9 _ _ _ hv hk).2; omega))
end
section
theorem a5d (c : Bool) (n : Nd) (proc : Int) (hs : (a2c n).length + (a1g n 3).length ≤ 5000000) (hlen : n.lanes.length ≤ 1048576) (hv3 : n.views.length = 3) : a1o Tryz.prog 124 [.agg (w6w c n), .pv (.int .i64 proc)] (a1y true (a2m n proc)) := by
 refine pX Tryz.f124 [a1y true (a2m n proc)] 6 ?_
 have hla : (a2c n ++ a1g n 3).length = (a2c n).length + (a1g n 3).length := List.length_append
 refine exR (z7z (id := 0) rfl rfl rfl (x0x rfl (exR (x5x rfl y5y rfl rfl rfl ?_))))
 refine rlM [5] [_] (b5o c n (by omega) hlen) rfl rfl rfl ?_
 refine x0x rfl (x2x fun K1 hK1 => ?_)
 refine exR (x0x rfl (y0y ?_))
 refine z3z (ι := Nat) (fun i γ1 => [(5, .ref 5 (γ1 5)), (6, pI (i : Int))]) (fun i γ1 => [(5, ((γ1 5), .row 56 7 ((a2c n ++ a1g n i).map v4v))), (1, ((γ1 1), .dead))]) (fun i => i ≤ 3) (fun i => 3 - i) (cK [1, 2] rfl) (hK [0, 2, 3, 4] rfl) 0 (by omega) [0, _, 0, 0, 0, _] cv (HE.row rfl (by simp [a1g]) (HE.kill rfl HE.nil)) rfl fun i γ1 hi => ?_
 refine x2x fun K2 hK2 => ?_
 refine exA 3 rfl rfl (z2z rfl s6s rfl (v1v rfl rfl rfl (x8x rfl ?_ ?_)))<;>intro h<;>try simp at h
 ·obtain ⟨v, hv⟩ := gE n.views i
  have hg : n.views.getD i vi0 = v := by rw [List.getD_eq_getElem?_getD, hv]; rfl
  have hol := d0i n (i := i + 1) (by omega)
  rw [a3k] at hol
  refine x7x (hK2 _ _ (x2x fun K4 hK4 => ?_))
  refine y0y (exA 4 rfl rfl (y2y rfl ?_ ?_))<;>intro hc5<;>try simp at hc5
  ·have hve : b3i n i = [] := by rw [b3i, if_pos hc5]
   refine x7x (hK4 _ _ (exG (x4x rfl (p7p rfl rfl rfl (x0x rfl ?_)))))
   exact ⟨i + 1, ⟨by omega, by omega⟩, [0, _, 0, 0, 0, _], (y3y 5 rfl (Cov.cons' (t := 6) rfl (by rw [u2u (by omega) (by omega)]; rfl) Cov.nil)), (y3y 1 rfl (y3y 2 rfl Cov.nil)), (HE.row rfl (by rw [a3k, hve]; simp) (HE.kill rfl HE.nil)), (z0z 0 rfl (z0z 2 rfl (z0z 3 rfl (z0z 4 rfl HE.nil)))), rfl⟩
  have hve : b3i n i = v.events := by rw [b3i, if_neg hc5, hg]
  rw [hve] at hol
  simp only [a0q] at hol
  refine exG (x1x 4 rfl rfl (y8y rfl rfl s6s rfl p0p rfl hv (x1x 2 rfl rfl ?_)))
  refine s1s (zs := (a2c n ++ a1g n i ++ v.events).map v4v) rfl rfl u9u rfl u0u rfl rfl rfl (w3w (fun _ => rfl) _) (a9u _ _ _) (by have hb56 : T56.bytes = 56 := rfl; rw [List.length_map, hb56]; simp only [a0q, a0v, a0x]; omega) ?_
  refine x0x rfl (hK4 _ _ (exG (x4x rfl (p7p rfl rfl rfl (x0x rfl ?_)))))
  exact ⟨i + 1, ⟨by omega, by omega⟩, [0, _, 0, 0, 0, _], (y3y 5 rfl (Cov.cons' (t := 6) rfl (by rw [u2u (by omega) (by omega)]; rfl) Cov.nil)), (y3y 1 rfl (y3y 2 rfl Cov.nil)), (HE.row rfl (by rw [a3k, hve]; simp) (HE.kill rfl HE.nil)), (z0z 0 rfl (z0z 2 rfl (z0z 3 rfl (z0z 4 rfl HE.nil)))), rfl⟩
 obtain rfl : i = 3 := by omega
 have hall : (a2c n ++ a1g n 3).length ≤ 5000000 := by rw [List.length_append]; omega
 refine z4z (hK1 _ _ (a1e 5 rfl rfl (fun _ => rfl) ?_))
 refine exR (z8z (id := 2) u9u rfl u0u rfl (x0x rfl (x2x fun K6 hK6 => ?_)))
 refine exR (x0x rfl (y0y ?_))
 refine z3z (ι := Nat) (fun j γ2 => [(7, .ref 2 (γ2 2)), (8, pI (j : Int))]) (fun j γ2 => [(2, ((γ2 2), .row 56 7 ((((a2c n ++ a1g n 3).take j).filter (a8r proc n.g)).map v4v))), (3, ((γ2 3), .dead)), (4, ((γ2 4), .dead))]) (fun j => j ≤ (a2c n ++ a1g n 3).length) (fun j => (a2c n ++ a1g n 3).length - j) (cK [1, 2, 5] rfl) (hK [0, 1, 5] rfl) 0 (by omega) [0, 0, _, _, _] cv (HE.row rfl (by rw [List.take_zero]; rfl) (HE.kill rfl (HE.kill rfl HE.nil))) rfl fun j γ2 hi => ?_
 refine x2x fun K7 hK7 => ?_
 refine exA 2 rfl rfl (z2z rfl u9u rfl (v1v rfl rfl rfl (y2y rfl ?_ ?_)))<;>intro h<;>try simp at h
 ·obtain rfl : j = (a2c n ++ a1g n 3).length := by omega
  rw [List.take_length]
  refine z4z (hK6 _ _ (a1e 7 rfl rfl (fun _ => rfl) ?_))
  refine exR (x4x rfl (x9x rfl rfl rfl (a2k true ((a2c n ++ a1g n 3).filter (a8r proc n.g)) (Nat.le_trans (List.length_filter_le _ _) (by rw [List.length_append]; omega))) ?_))
  refine x0x rfl (x6x ⟨.inr rfl, ?_⟩)
  refine y6y rfl rfl rfl
 obtain ⟨p, hp⟩ := gE (a2c n ++ a1g n 3) j
 have hfl : (((a2c n ++ a1g n 3).take j).filter (a8r proc n.g)).length ≤ 5000000 := Nat.le_trans (List.length_filter_le _ _) (by rw [List.length_take]; omega)
 refine x7x (hK7 _ _ (x2x fun K9 hK9 => ?_))
 refine y0y (exD (x1x 2 rfl rfl (y8y rfl rfl u9u rfl u0u rfl hp (x1x 5 rfl rfl (z6z rfl rfl ?_ ?_)))))<;>intro hg10<;>try simp at hg10
 ·have hw : ¬ a8r proc n.g p = true := by simp only [a8r, decide_eq_true_eq]; omega
  refine x1x 8 rfl rfl ⟨by kernel_rfl, x8x rfl (fun hc12 => ?_) (fun hc12 => ?_)⟩
  ·simp at hc12
  try simp at hc12
  try have hw : ¬ a8r proc n.g p = true := by simp only [a8r, decide_eq_true_eq]; omega
  refine x7x (hK9 _ _ (exG (x4x rfl (p7p rfl rfl rfl (x0x rfl ?_)))))
  exact ⟨j + 1, ⟨by omega, by omega⟩, [0, 0, _, _, _], (y3y 7 rfl (Cov.cons' (t := 8) rfl (by rw [u2u (by omega) (by omega)]; rfl) Cov.nil)), cv, (HE.row rfl (by rw [a1m hp]; rw [if_neg hw, List.append_nil]) (HE.kill rfl (HE.kill rfl HE.nil))), hv, rfl⟩
 have hw1 : p.to = proc := hg10
 refine x1x 2 rfl rfl (z1z rfl rfl (y8y rfl rfl u9u rfl u0u rfl hp (x1x 6 rfl rfl ⟨by kernel_rfl, y2y rfl ?_ ?_⟩)))<;>intro h<;>try simp at h
 ·try have hw : ¬ a8r proc n.g p = true := by simp only [a8r, decide_eq_true_eq]; omega
  refine x7x (hK9 _ _ (exG (x4x rfl (p7p rfl rfl rfl (x0x rfl ?_)))))
  exact ⟨j + 1, ⟨by omega, by omega⟩, [0, 0, _, _, _], (y3y 7 rfl (Cov.cons' (t := 8) rfl (by rw [u2u (by omega) (by omega)]; rfl) Cov.nil)), cv, (HE.row rfl (by rw [a1m hp]; rw [if_neg hw, List.append_nil]) (HE.kill rfl (HE.kill rfl HE.nil))), hv, rfl⟩
 have hw : a8r proc n.g p = true := by simp only [a8r, decide_eq_true_eq]; omega
 refine exG (x1x 3 rfl rfl (y8y rfl rfl u9u rfl u0u rfl hp (u4u rfl u0u rfl rfl (u5u (id := 3) u9u rfl u0u rfl rfl rfl rfl rfl rfl ?_))))
 refine u6u (zs := (((a2c n ++ a1g n 3).take j).filter (a8r proc n.g) ++ [p]).map v4v) rfl rfl u9u rfl u0u rfl rfl rfl rfl (by rfl) (w7w _ _ _) (by have hb56 : T56.bytes = 56 := rfl; rw [List.length_map, hb56]; simp only [a0q, a0v, a0x]; omega) ?_
 refine x0x rfl (hK9 _ _ (exG (x4x rfl (p7p rfl rfl rfl (x0x rfl ?_)))))
 exact ⟨j + 1, ⟨by omega, by omega⟩, [0, 0, _, _, _], (y3y 7 rfl (Cov.cons' (t := 8) rfl (by rw [u2u (by omega) (by omega)]; rfl) Cov.nil)), cv, (HE.row rfl (by rw [a1m hp]; rw [if_pos hw]) (HE.kill rfl (HE.kill rfl HE.nil))), hv, rfl⟩
end
section
theorem r6r (c : Bool) (n : Nd) : a1o Tryz.prog 46 [.agg (w6w c n)] (.pv (.bool (kb (u3u n)))) := by
 refine pX Tryz.f46 [.pv (.bool (kb (u3u n)))] 1 ?_
 have hpl := a5z n.id 4
 refine exR (z7z (id := 0) rfl rfl rfl (x0x rfl (x2x fun K1 hK1 => ?_)))
 refine exD (x1x 2 rfl rfl (x9x rfl rfl rfl (u8u ..) (x1x 2 rfl rfl (z6z rfl rfl ?_ ?_))))<;>intro hg2<;>try simp at hg2
 ·have hX : ¬ (0 ≤ n.id ∧ n.id ≤ 2) := by omega
  refine x1x 36 rfl rfl ⟨by kernel_rfl, x8x rfl (fun hc33 => ?_) (fun hc33 => ?_)⟩
  rotate_left
  ·simp at hc33
  try simp at hc33
  try have hX : ¬ a9w n := a0z (by simpa using hc33)
  refine exR (x0x rfl (x6x ⟨.inr rfl, ?_⟩))
  refine y6y rfl ?_ rfl
  exact congrArg (fun b : Bool => [AV.pv (.bool b)]) (a5s (fun h => by obtain ⟨⟨q1, q2, q3, q4, q5, q6, q7, q8, q9⟩, q0⟩ := h; exact hX q1.1))
 have f1 : 0 ≤ n.id ∧ n.id ≤ 2 := hg2
 refine x1x 2 rfl rfl (z1z rfl rfl (x9x rfl rfl rfl (w5w ..) (z1z rfl rfl (x9x rfl rfl rfl (u8u ..) (x1x 3 rfl rfl (z6z rfl rfl ?_ ?_))))))<;>intro hg3<;>try simp at hg3
 ·have hX : ¬ (1 ≤ n.inc ∧ n.inc ≤ 9999) := by omega
  refine x1x 29 rfl rfl ⟨by kernel_rfl, x8x rfl (fun hc32 => ?_) (fun hc32 => ?_)⟩
  rotate_left
  ·simp at hc32
  try simp at hc32
  try have hX : ¬ a9w n := a0z (by simpa using hc32)
  refine exR (x0x rfl (x6x ⟨.inr rfl, ?_⟩))
  refine y6y rfl ?_ rfl
  exact congrArg (fun b : Bool => [AV.pv (.bool b)]) (a5s (fun h => by obtain ⟨⟨q1, q2, q3, q4, q5, q6, q7, q8, q9⟩, q0⟩ := h; exact hX q1.2.1))
 have f2 : 1 ≤ n.inc ∧ n.inc ≤ 9999 := hg3
 refine x1x 2 rfl rfl (z1z rfl rfl (x9x rfl rfl rfl (u8u ..) (x1x 3 rfl rfl (z6z rfl rfl ?_ ?_))))<;>intro hg4<;>try simp at hg4
 ·have hX : ¬ (0 ≤ n.g ∧ n.g ≤ 41) := by omega
  refine x1x 23 rfl rfl ⟨by kernel_rfl, x8x rfl (fun hc31 => ?_) (fun hc31 => ?_)⟩
  rotate_left
  ·simp at hc31
  try simp at hc31
  try have hX : ¬ a9w n := a0z (by simpa using hc31)
  refine exR (x0x rfl (x6x ⟨.inr rfl, ?_⟩))
  refine y6y rfl ?_ rfl
  exact congrArg (fun b : Bool => [AV.pv (.bool b)]) (a5s (fun h => by obtain ⟨⟨q1, q2, q3, q4, q5, q6, q7, q8, q9⟩, q0⟩ := h; exact hX q1.2.2.1))
 have f3 : 0 ≤ n.g ∧ n.g ≤ 41 := hg4
 refine x1x 2 rfl rfl (z1z rfl rfl (x9x rfl rfl rfl (w5w ..) (z1z rfl rfl (x9x rfl rfl rfl (u8u ..) (x1x 3 rfl rfl (z6z rfl rfl ?_ ?_))))))<;>intro hg5<;>try simp at hg5
 ·have hX : ¬ (0 ≤ n.led ∧ n.led ≤ 9999) := by omega
  refine x1x 16 rfl rfl ⟨by kernel_rfl, x8x rfl (fun hc30 => ?_) (fun hc30 => ?_)⟩
  rotate_left
  ·simp at hc30
  try simp at hc30
  try have hX : ¬ a9w n := a0z (by simpa using hc30)
  refine exR (x0x rfl (x6x ⟨.inr rfl, ?_⟩))
  refine y6y rfl ?_ rfl
  exact congrArg (fun b : Bool => [AV.pv (.bool b)]) (a5s (fun h => by obtain ⟨⟨q1, q2, q3, q4, q5, q6, q7, q8, q9⟩, q0⟩ := h; exact hX q1.2.2.2.1))
 have f4 : 0 ≤ n.led ∧ n.led ≤ 9999 := hg5
 refine x1x 2 rfl rfl (z1z rfl rfl (x9x rfl rfl rfl (a4o ..) (z1z rfl rfl (x9x rfl rfl rfl (a4j ..) (x1x 3 rfl rfl (z6z rfl rfl ?_ ?_))))))<;>intro hg6<;>try simp at hg6
 ·have hX : ¬ a8b okE a3m n.kept 100 = true := by simpa using hg6
  refine x1x 9 rfl rfl ⟨by kernel_rfl, x8x rfl (fun hc29 => ?_) (fun hc29 => ?_)⟩
  rotate_left
  ·simp at hc29
  try simp at hc29
  try have hX : ¬ a9w n := a0z (by simpa using hc29)
  refine exR (x0x rfl (x6x ⟨.inr rfl, ?_⟩))
  refine y6y rfl ?_ rfl
  exact congrArg (fun b : Bool => [AV.pv (.bool b)]) (a5s (fun h => by obtain ⟨⟨q1, q2, q3, q4, q5, q6, q7, q8, q9⟩, q0⟩ := h; exact hX q2))
 have f5 : a8b okE a3m n.kept 100 = true := hg6
 refine x1x 2 rfl rfl (z1z rfl rfl (x9x rfl rfl rfl (a8e ..) (x1x 3 rfl rfl (z6z rfl rfl ?_ ?_))))<;>intro hg7<;>try simp at hg7
 ·have hX : ¬ a8b okO b1u n.outs 96 = true := by simpa using hg7
  refine x1x 3 rfl rfl ⟨by kernel_rfl, x8x rfl (fun hc28 => ?_) (fun hc28 => ?_)⟩
  rotate_left
  ·simp at hc28
  try simp at hc28
  try have hX : ¬ a9w n := a0z (by simpa using hc28)
  refine exR (x0x rfl (x6x ⟨.inr rfl, ?_⟩))
  refine y6y rfl ?_ rfl
  exact congrArg (fun b : Bool => [AV.pv (.bool b)]) (a5s (fun h => by obtain ⟨⟨q1, q2, q3, q4, q5, q6, q7, q8, q9⟩, q0⟩ := h; exact hX q3))
 have f6 : a8b okO b1u n.outs 96 = true := hg7
 refine x5x rfl y5y rfl rfl rfl (z1z rfl rfl (x9x rfl rfl rfl (c3m ..) (x1x 2 rfl rfl ⟨by kernel_rfl, x8x rfl ?_ ?_⟩)))<;>intro hc8<;>try simp at hc8
 ·try have hX : ¬ a9w n := a0z (by simpa using hc8)
  refine exR (x0x rfl (x6x ⟨.inr rfl, ?_⟩))
  refine y6y rfl ?_ rfl
  exact congrArg (fun b : Bool => [AV.pv (.bool b)]) (a5s (fun h => by obtain ⟨⟨q1, q2, q3, q4, q5, q6, q7, q8, q9⟩, q0⟩ := h; exact hX ⟨q6, q7, q1.2.2.2.2.1, q1.2.2.2.2.2.1, q1.2.2.2.2.2.2, q9⟩))
 have fF : a9w n := a1x.1 (by simpa using hc8)
 have fo96 := (a0h f6).1
 refine x7x (hK1 _ _ ?_)
 refine a0k (ι := Unit) (fun _i γ1 => []) (fun _i γ1 => []) (fun _i => ∀ (i : Nat) a, n.outs[i]? = some a → a.time < n.g) (y3y 1 rfl Cov.nil) (z0z 0 rfl HE.nil) ?_ fun _i γ1 hi => ?_
 ·refine exD (x1x 2 rfl rfl (z2z rfl q8q rfl (x1x 2 rfl rfl (z6z rfl rfl ?_ ?_))))<;>intro hg9<;>try simp at hg9
  ·have g0 : n.outs.length = 0 := by (rw [hg9]; rfl)
   have fO : ∀ (i : Nat) a, n.outs[i]? = some a → a.time < n.g := fun i a ha => by have := (List.getElem?_eq_some_iff.1 ha).1; omega
   refine x1x 12 rfl rfl ⟨by kernel_rfl, x8x rfl (fun hc11 => ?_) (fun hc11 => ?_)⟩
   ·simp at hc11
   try simp at hc11
   try have fO : ∀ (i : Nat) a, n.outs[i]? = some a → a.time < n.g := d0p f6 ho (by omega)
   refine x7x ?_
   exact ⟨(), fO, [], cv, cv, hv, hv, rfl⟩
  have g0 : 0 < n.outs.length := by omega
  obtain ⟨o, ho⟩ := gE n.outs (n.outs.length - 1)
  refine x1x 4 rfl rfl (z1z rfl rfl (z2z rfl q8q rfl (z1z rfl rfl (a0s (b := 1) rfl rfl (by omega) (by omega) (z1z rfl rfl (y8y rfl rfl q8q rfl w8w rfl ho (x1x 6 rfl rfl ⟨by kernel_rfl, y2y rfl ?_ ?_⟩)))))))<;>intro u<;>try simp at u
  ·try have fO : ∀ (i : Nat) a, n.outs[i]? = some a → a.time < n.g := d0p f6 ho (by omega)
   refine x7x ?_
   exact ⟨(), fO, [], cv, cv, hv, hv, rfl⟩
  have hX : ¬ o.time < n.g := by omega
  refine exR (x0x rfl (x6x ⟨.inr rfl, ?_⟩))
  refine y6y rfl ?_ rfl
  exact congrArg (fun b : Bool => [AV.pv (.bool b)]) (a5s (fun h => by obtain ⟨⟨q1, q2, q3, q4, q5, q6, q7, q8, q9⟩, q0⟩ := h; exact hX (q4 _ _ ho)))
 ·try dsimp only [b3s, b3t]
  have fO := hi
  refine exA 2 rfl rfl (x9x rfl rfl rfl (b3z ..) (x0x rfl (x2x fun K12 hK12 => ?_)))
  refine exA 2 rfl rfl (z2z rfl q6q rfl (x4x rfl (z2z rfl q6q rfl (v1v rfl rfl rfl (x8x rfl ?_ ?_)))))<;>intro u<;>try simp at u
  ·refine exR (x0x rfl (x6x ⟨.inr rfl, ?_⟩))
   refine y6y rfl ?_ rfl
   exact congrArg (fun b : Bool => [AV.pv (.bool b)]) (a5s (fun h => by obtain ⟨⟨q1, q2, q3, q4, q5, q6, q7, q8, q9⟩, q0⟩ := h; omega))
  have fL : n.lanes.length = (a0b n.id 4).length := by omega
  refine x7x (hK12 _ _ (x2x fun K14 hK14 => ?_))
  refine exR (x0x rfl (y0y ?_))
  refine z3z (ι := Nat) (fun i γ2 => [(4, pI (i : Int))]) (fun i γ2 => []) (fun i => i ≤ (a0b n.id 4).length ∧ c8y n.lanes (fun j l => (a0b n.id 4)[j]? = some l.proc ∧ a7h l = true) i) (fun i => (a0b n.id 4).length - i) (cK [1, 3] rfl) (z0z 0 rfl HE.nil) 0 ⟨by omega, a2l⟩ [] cv hv rfl fun i γ2 hi => ?_
  obtain ⟨b1, b2⟩ := hi
  refine x2x fun K15 hK15 => ?_
  refine exA 2 rfl rfl (z2z rfl q6q rfl (v1v rfl rfl rfl (x8x rfl ?_ ?_)))<;>intro u<;>try simp at u
  ·obtain ⟨l, hl⟩ := gE n.lanes i
   obtain ⟨p, hp⟩ := gE (a0b n.id 4) i
   refine x7x (hK15 _ _ (x2x fun K17 hK17 => ?_))
   refine y0y (exD (x1x 3 rfl rfl (y8y rfl rfl q6q rfl v6v rfl hl (u4u rfl v6v rfl rfl (x9x rfl rfl rfl (a4p ..) (x1x 2 rfl rfl (z6z rfl rfl ?_ ?_)))))))<;>intro hg18<;>try simp at hg18
   ·have hX : ¬ a7h l = true := by simpa using hg18
    refine x1x 12 rfl rfl ⟨by kernel_rfl, x8x rfl (fun hc20 => ?_) (fun hc20 => ?_)⟩
    rotate_left
    ·simp at hc20
    try simp at hc20
    try have hX : ¬ l.proc = p := by first | exact hc20 | (simpa [b2r] using hc20)
    refine exR (x0x rfl (x6x ⟨.inr rfl, ?_⟩))
    refine y6y rfl ?_ rfl
    exact congrArg (fun b : Bool => [AV.pv (.bool b)]) (a5s (fun h => by obtain ⟨⟨q1, q2, q3, q4, q5, q6, q7, q8, q9⟩, q0⟩ := h; exact hX (q8 _ _ hl).2))
   have hlo : a7h l = true := hg18
   refine x1x 3 rfl rfl (z1z rfl rfl (y8y rfl rfl q6q rfl v6v rfl hl (x1x 4 rfl rfl (z1z rfl rfl (y8y rfl rfl q6q rfl v6v rfl hp (x1x 4 rfl rfl ⟨by kernel_rfl, y2y rfl ?_ ?_⟩))))))<;>intro hc19<;>try simp at hc19
   ·have hpe : l.proc = p := hc19
    refine x7x (hK17 _ _ (exG (x4x rfl (z5z (b := 1) rfl rfl (by omega) (x0x rfl ?_)))))
    exact ⟨i + 1, ⟨⟨by omega, a0u b2 hl ⟨by rw [hp, hpe], hlo⟩⟩, by omega⟩, [], cv, cv, hv, hv, rfl⟩
   try have hX : ¬ l.proc = p := hc19
   refine exR (x0x rfl (x6x ⟨.inr rfl, ?_⟩))
   refine y6y rfl ?_ rfl
   exact congrArg (fun b : Bool => [AV.pv (.bool b)]) (a5s (fun h => by obtain ⟨⟨q1, q2, q3, q4, q5, q6, q7, q8, q9⟩, q0⟩ := h; have := (q8 _ _ hl).1; rw [hp] at this; exact hX (Option.some.inj this).symm))
  have fN : e5b n := a4b b2 (by omega)
  refine z4z (hK14 _ _ (x2x fun K21 hK21 => ?_))
  refine exR (x0x rfl (y0y ?_))
  refine z3z (ι := Nat) (fun j γ3 => [(5, pI (j : Int))]) (fun j γ3 => []) (fun j => j ≤ (a0b n.id 4).length ∧ c8y n.lanes (fun j l => ∀ p, (a0b n.id 4)[j]? = some p → l.done.length ≤ same l.done (a2m n p) ∧ (a2m n p).length ≤ 100) j) (fun j => (a0b n.id 4).length - j) (cK [1, 3] rfl) (z0z 0 rfl HE.nil) 0 ⟨by omega, a2l⟩ [] cv hv rfl fun j γ3 hi => ?_
  obtain ⟨d1, d2⟩ := hi
  refine x2x fun K22 hK22 => ?_
  refine exA 2 rfl rfl (z2z rfl q6q rfl (v1v rfl rfl rfl (y2y rfl ?_ ?_)))<;>intro u<;>try simp at u
  ·have fC := fun (i : Nat) p l (a : (a0b n.id 4)[i]? = some p) (b : n.lanes[i]? = some l) => a4b d2 (by omega) i l b p a
   refine z4z (hK21 _ _ (exR (x0x rfl (x6x ⟨.inr rfl, ?_⟩))))
   refine y6y rfl ?_ rfl
   exact congrArg (fun b : Bool => [AV.pv (.bool b)]) (d7y ⟨⟨⟨f1, f2, f3, f4, fF.2.2.1, fF.2.2.2.1, fF.2.2.2.2.1⟩, f5, f6, fO, fL, fF.1, fF.2.1, fN, fF.2.2.2.2.2⟩, fC⟩)
  obtain ⟨l, hl⟩ := gE n.lanes j
  obtain ⟨p, hp⟩ := gE (a0b n.id 4) j
  obtain ⟨hdl, _⟩ := a3v (fN j l hl).2
  refine x7x (hK22 _ _ (x2x fun K24 hK24 => ?_))
  refine y0y (exD (x1x 3 rfl rfl (y8y rfl rfl q6q rfl v6v rfl hl (x1x 4 rfl rfl (y8y rfl rfl q6q rfl v6v rfl hp (x1x 2 rfl rfl ?_))))))
  refine x9x rfl rfl rfl (a5d c n p (by have := c7n f5 (by omega) fN; have := c7o fF.1 fF.2.1 fF.2.2.2.2.2; omega) (by omega) fF.1) ?_
  refine x9x rfl rfl rfl (b0c ..) (x1x 3 rfl rfl (y8y rfl rfl q6q rfl v6v rfl hl (x1x 2 rfl rfl (z2z rfl r0r rfl (x1x 2 rfl rfl (z6z rfl rfl ?_ ?_))))))<;>intro u<;>try simp at u
  ·refine x1x 10 rfl rfl ⟨by kernel_rfl, x8x rfl (fun hc27 => ?_) (fun hc27 => ?_)⟩
   rotate_left
   ·simp at hc27
   try simp at hc27
   refine exR (x0x rfl (x6x ⟨.inr rfl, ?_⟩))
   refine y6y rfl ?_ rfl
   exact congrArg (fun b : Bool => [AV.pv (.bool b)]) (a5s (fun h => by obtain ⟨⟨q1, q2, q3, q4, q5, q6, q7, q8, q9⟩, q0⟩ := h; have := q0 _ _ _ hp hl; omega))
  refine x1x 3 rfl rfl (z1z rfl rfl (y8y rfl rfl q6q rfl v6v rfl hp (x1x 2 rfl rfl (z1z rfl rfl ?_))))
  refine x9x rfl rfl rfl (a5d c n p (by have := c7n f5 (by omega) fN; have := c7o fF.1 fF.2.1 fF.2.2.2.2.2; omega) (by omega) fF.1) ?_
  refine z1z rfl rfl (z2z rfl u9u rfl (z1z rfl rfl (x9x rfl rfl rfl (a4o ..) (x1x 2 rfl rfl ⟨by kernel_rfl, y2y rfl ?_ ?_⟩))))<;>intro u<;>try simp at u
  ·refine x7x (hK24 _ _ (exG (x4x rfl (z5z (b := 1) rfl rfl (by omega) (x0x rfl ?_)))))
   exact ⟨j + 1, ⟨⟨by omega, a0u d2 hl (fun p2 hp2 => by rw [hp] at hp2; cases hp2; omega)⟩, by omega⟩, [], cv, cv, hv, hv, rfl⟩
  refine exR (x0x rfl (x6x ⟨.inr rfl, ?_⟩))
  refine y6y rfl ?_ rfl
  exact congrArg (fun b : Bool => [AV.pv (.bool b)]) (a5s (fun h => by obtain ⟨⟨q1, q2, q3, q4, q5, q6, q7, q8, q9⟩, q0⟩ := h; have := q0 _ _ _ hp hl; omega))
end
section
theorem a8v (c : Bool) (n : Nd) (t : Nat) (ht : t < 3) (hk3 : n.known.length = 3) (hs : (a2c n).length ≤ 5000000) (hlen : n.lanes.length ≤ 1048576) : a1o Tryz.prog 135 [.agg (w6w c n), .pv (.int .i64 (t : Int))] (a1y true (a4c n (t : Int))) := by
 refine pX Tryz.f135 [a1y true (a4c n (t : Int))] 5 ?_
 obtain ⟨kn, hkn⟩ := gE n.known t
 rw [e0v hkn]
 refine exR (z7z (id := 0) rfl rfl rfl (x0x rfl (exR (x5x rfl y5y rfl rfl rfl ?_))))
 refine rlM [4] [_] (b5o c n (by omega) hlen) rfl rfl rfl ?_
 refine x0x rfl (a1e 5 rfl rfl (fun _ => rfl) ?_)
 refine exR (z8z (id := 1) u9u rfl u0u rfl (x0x rfl (x2x fun K1 hK1 => ?_)))
 refine exR (x0x rfl (y0y ?_))
 refine z3z (ι := Nat) (fun j γ1 => [(6, .ref 1 (γ1 1)), (7, pI (j : Int))]) (fun j γ1 => [(1, ((γ1 1), .row 56 7 ((((a2c n).take j).filter (b6j (t : Int) kn)).map v4v))), (2, ((γ1 2), .dead)), (3, ((γ1 3), .dead))]) (fun j => j ≤ (a2c n).length) (fun j => (a2c n).length - j) (cK [1, 2, 5] rfl) (hK [0, 4] rfl) 0 (by omega) [0, _, _, _] cv (HE.row rfl (by rw [List.take_zero]; rfl) (HE.kill rfl (HE.kill rfl HE.nil))) rfl fun j γ1 hi => ?_
 refine x2x fun K2 hK2 => ?_
 refine exA 2 rfl rfl (z2z rfl u9u rfl (v1v rfl rfl rfl (y2y rfl ?_ ?_)))<;>intro h<;>try simp at h
 ·obtain rfl : j = (a2c n).length := by omega
  rw [List.take_length]
  refine z4z (hK1 _ _ (a1e 6 rfl rfl (fun _ => rfl) ?_))
  refine exR (x4x rfl (x9x rfl rfl rfl (a2k true ((a2c n).filter (b6j (t : Int) kn)) (Nat.le_trans (List.length_filter_le _ _) (by omega))) ?_))
  refine x0x rfl (x6x ⟨.inr rfl, ?_⟩)
  refine y6y rfl rfl rfl
 obtain ⟨p, hp⟩ := gE (a2c n) j
 have hfl : (((a2c n).take j).filter (b6j (t : Int) kn)).length ≤ 5000000 := Nat.le_trans (List.length_filter_le _ _) (by rw [List.length_take]; omega)
 refine x7x (hK2 _ _ (x2x fun K4 hK4 => ?_))
 refine y0y (exD (x1x 2 rfl rfl (y8y rfl rfl u9u rfl u0u rfl hp (x1x 2 rfl rfl (x9x rfl rfl rfl (a2n ..) (x1x 3 rfl rfl (z6z rfl rfl ?_ ?_)))))))<;>intro hg5<;>try simp at hg5
 ·have hw : ¬ b6j (t : Int) kn p = true := by simp only [b6j, decide_eq_true_eq]; omega
  refine x1x 11 rfl rfl ⟨by kernel_rfl, x8x rfl (fun hc7 => ?_) (fun hc7 => ?_)⟩
  ·simp at hc7
  try simp at hc7
  try have hw : ¬ b6j (t : Int) kn p = true := by simp only [b6j, decide_eq_true_eq]; omega
  refine x7x (hK4 _ _ (exG (x4x rfl (p7p rfl rfl rfl (x0x rfl ?_)))))
  exact ⟨j + 1, ⟨by omega, by omega⟩, [0, _, _, _], (y3y 6 rfl (Cov.cons' (t := 7) rfl (by rw [u2u (by omega) (by omega)]; rfl) Cov.nil)), cv, (HE.row rfl (by rw [a1m hp]; rw [if_neg hw, List.append_nil]) (HE.kill rfl (HE.kill rfl HE.nil))), hv, rfl⟩
 have hw1 : a1i p.to = (t : Int) := hg5
 refine x1x 2 rfl rfl (z1z rfl rfl (y8y rfl rfl u9u rfl u0u rfl hp (x1x 5 rfl rfl (z1z rfl rfl (y8y rfl rfl q1q rfl q5q rfl hkn (x1x 3 rfl rfl ⟨by kernel_rfl, y2y rfl ?_ ?_⟩))))))<;>intro h<;>try simp at h
 ·try have hw : ¬ b6j (t : Int) kn p = true := by simp only [b6j, decide_eq_true_eq]; omega
  refine x7x (hK4 _ _ (exG (x4x rfl (p7p rfl rfl rfl (x0x rfl ?_)))))
  exact ⟨j + 1, ⟨by omega, by omega⟩, [0, _, _, _], (y3y 6 rfl (Cov.cons' (t := 7) rfl (by rw [u2u (by omega) (by omega)]; rfl) Cov.nil)), cv, (HE.row rfl (by rw [a1m hp]; rw [if_neg hw, List.append_nil]) (HE.kill rfl (HE.kill rfl HE.nil))), hv, rfl⟩
 have hw : b6j (t : Int) kn p = true := by simp only [b6j, decide_eq_true_eq]; omega
 refine exG (x1x 3 rfl rfl (y8y rfl rfl u9u rfl u0u rfl hp (u4u rfl u0u rfl rfl (u5u (id := 2) u9u rfl u0u rfl rfl rfl rfl rfl rfl ?_))))
 refine u6u (zs := (((a2c n).take j).filter (b6j (t : Int) kn) ++ [p]).map v4v) rfl rfl u9u rfl u0u rfl rfl rfl rfl (by rfl) (w7w _ _ _) (by (simp only [a0w, a0q, a0v, a0x, a1t, a3w, T56] at *; omega)) ?_
 refine x0x rfl (hK4 _ _ (exG (x4x rfl (p7p rfl rfl rfl (x0x rfl ?_)))))
 exact ⟨j + 1, ⟨by omega, by omega⟩, [0, _, _, _], (y3y 6 rfl (Cov.cons' (t := 7) rfl (by rw [u2u (by omega) (by omega)]; rfl) Cov.nil)), cv, (HE.row rfl (by rw [a1m hp]; rw [if_pos hw]) (HE.kill rfl (HE.kill rfl HE.nil))), hv, rfl⟩
end
section
theorem c4r (c c' : Bool) (l l' : List Ev) : a1o Tryz.prog 251 [a1y c l, a1y c' l'] (.pv (.bool (decide (l = l')))) := by
 refine pX Tryz.f251 [.pv (.bool (decide (l = l')))] 0 ?_
 refine p2p 0 rfl fun hlen => ?_
 refine exR (x0x rfl (x2x fun K1 hK1 => ?_))
 refine exR (x4x rfl (z2z rfl u9u rfl (x4x rfl (z2z rfl u9u rfl (v1v rfl rfl rfl (x8x rfl ?_ ?_))))))<;>intro o<;>try simp at o
 ·refine exR (x0x rfl (x6x ⟨.inr rfl, ?_⟩))
  refine y6y rfl ?_ rfl
  exact f0k (by omega)
 refine x7x (hK1 _ _ (x2x fun K3 hK3 => ?_))
 refine exR (x0x rfl (y0y ?_))
 refine z3z (ι := Nat) (fun i γ1 => [(5, pI (i : Int))]) (fun i γ1 => []) (fun i => i ≤ l.length ∧ l.length = l'.length ∧ l.take i = l'.take i) (fun i => l.length - i) (cK [0, 1] rfl) HE.nil 0 ⟨by omega, by omega, rfl⟩ [] cv hv rfl fun i γ1 hi => ?_
 obtain ⟨h1, h2, h3⟩ := hi
 refine x2x fun K4 hK4 => ?_
 refine exA 2 rfl rfl (z2z rfl u9u rfl (v1v rfl rfl rfl (y2y rfl ?_ ?_)))<;>intro o<;>try simp at o
 ·refine z4z (hK3 _ _ (exR (x0x rfl (x6x ⟨.inr rfl, ?_⟩))))
  refine y6y rfl ?_ rfl
  exact eqT h3 (by omega) (by omega)
 refine x7x (hK4 _ _ (x2x fun K6 hK6 => ?_))
 refine y0y (exD (x1x 2 rfl rfl ?_))
 obtain ⟨x, hx⟩ := gE l i
 refine y8y rfl rfl u9u rfl u0u rfl hx (x1x 3 rfl rfl ?_)
 obtain ⟨y, hy⟩ := gE l' i
 refine y8y rfl rfl u9u rfl u0u rfl hy (u4u rfl u0u rfl rfl (b0t rfl rfl (by intro p q h; cases h) (.inr rfl) (f0j _ _ _ _) ?_))
 refine ⟨by kernel_rfl, y2y rfl ?_ ?_⟩<;>intro hc7<;>try simp at hc7
 ·have hxy : x = y := by simpa [a2t] using hc7
  refine x7x (hK6 _ _ (exG (x4x rfl ?_)))
  refine a0r (.int .i64 ((i + 1 : Nat) : Int)) rfl rfl rfl (a7f rfl (by omega) (by omega) (by have := hlen; omega)) ?_
  refine x0x rfl ?_
  exact ⟨i + 1, ⟨⟨by omega, h2, a7k h3 hx hy (by assumption)⟩, by omega⟩, [], cv, cv, hv, hv, rfl⟩
 have hxy : ¬ x = y := by simpa [a2t] using hc7
 refine exR (x0x rfl (x6x ⟨.inr rfl, ?_⟩))
 refine y6y rfl ?_ rfl
 exact d7z hx hy (by assumption)
theorem b2p (c : Bool) (a b : List Ev) (g : Int) : a1o Tryz.prog 169 [a1y c a, a1y c b, .pv (.int .i64 g)] (.pv (.int .i64 (chg g a (chg g b 41 a) b))) := by
 refine pX Tryz.f169 [.pv (.int .i64 (chg g a (chg g b 41 a) b))] 0 ?_
 refine exR (x0x rfl (exR (x0x rfl (x2x fun K1 hK1 => ?_))))
 refine exR (x0x rfl (y0y ?_))
 refine z3z (ι := Nat) (fun k γ1 => [(0, a1y c (swK a b k)), (1, a1y c (swK b a k)), (7, pI (e7v g a b k)), (8, pI (k : Int))]) (fun k γ1 => []) (fun k => k ≤ 2) (fun k => 2 - k) (y3y 2 rfl Cov.nil) HE.nil 0 (by omega) [] (Cov.cons' (t := 0) rfl (rfl) (Cov.cons' (t := 1) rfl (rfl) (Cov.cons' (t := 7) rfl (rfl) (y3y 8 rfl Cov.nil)))) hv rfl fun k γ1 hi => ?_
 refine x2x fun K2 hK2 => ?_
 refine exA 2 rfl rfl (y2y rfl ?_ ?_)<;>intro o<;>try simp at o
 ·obtain rfl : k = 2 := by omega
  refine z4z (hK1 _ _ (exA 2 rfl rfl (x6x ⟨.inr rfl, ?_⟩)))
  exact y6y rfl rfl rfl
 refine x7x (hK2 _ _ (x2x fun K4 hK4 => ?_))
 refine y0y (x2x fun K5 hK5 => ?_)
 refine exR (x0x rfl (y0y (p2p 0 rfl fun hlen0 => ?_)))
 refine z3z (ι := Nat) (fun i γ2 => [(7, pI (chg g (swK b a k) (e7v g a b k) ((swK a b k).take i))), (9, pI (i : Int))]) (fun i γ2 => []) (fun i => i ≤ (swK a b k).length) (fun i => (swK a b k).length - i) (cK [0, 1, 2, 8] rfl) HE.nil 0 (by omega) [] (Cov.cons' (t := 7) rfl (by rw [List.take_zero]; rfl) (y3y 9 rfl Cov.nil)) hv rfl fun i γ2 hi => ?_
 refine x2x fun K6 hK6 => ?_
 refine exA 2 rfl rfl (z2z rfl u9u rfl (v1v rfl rfl rfl (y2y rfl ?_ ?_)))<;>intro o<;>try simp at o
 ·obtain rfl : i = (swK a b k).length := by omega
  refine z4z (hK5 _ _ (exA 2 rfl rfl (exA 2 rfl rfl (exG (x1x 2 rfl rfl (hK4 _ _ (exG (x4x rfl (z5z (b := 1) rfl rfl (by omega) (x0x rfl ?_))))))))))
  exact ⟨k + 1, ⟨by omega, by omega⟩, [], (Cov.cons' (t := 0) rfl (by rw [d5l (by omega)]) (Cov.cons' (t := 1) rfl (by rw [d5l (by omega)]) (Cov.cons' (t := 7) rfl (by rw [e1o (by omega), List.take_length]) (y3y 8 rfl Cov.nil)))), cv, hv, hv, rfl⟩
 obtain ⟨x, hx⟩ := gE (swK a b k) i
 refine x7x (hK6 _ _ (x2x fun K8 hK8 => ?_))
 refine y0y (exR (x0x rfl (x2x fun K9 hK9 => ?_)))
 refine exR (x0x rfl (y0y (p2p 1 rfl fun hlen1 => ?_)))
 refine z3z (ι := Nat) (fun j γ3 => [(10, .pv (.bool (decide (x ∈ (swK b a k).take j)))), (11, pI (j : Int))]) (fun j γ3 => []) (fun j => j ≤ (swK b a k).length) (fun j => (swK b a k).length - j) (cK [0, 1, 2, 7, 8, 9] rfl) HE.nil 0 (by omega) [] (Cov.cons' (t := 10) rfl (by simp) (y3y 11 rfl Cov.nil)) hv rfl fun j γ3 hi => ?_
 refine x2x fun K10 hK10 => ?_
 refine exA 2 rfl rfl (z2z rfl u9u rfl (v1v rfl rfl rfl (x8x rfl ?_ ?_)))<;>intro o<;>try simp at o
 ·obtain ⟨z, hz⟩ := gE (swK b a k) j
  refine x7x (hK10 _ _ (x2x fun K12 hK12 => ?_))
  refine y0y (exH (x1x 2 rfl rfl (z6z rfl rfl ?_ ?_)))<;>intro hg13<;>try simp at hg13
  ·have hin : x ∈ (swK b a k).take j := by simpa using hg13
   refine x1x 10 rfl rfl ⟨by kernel_rfl, hK12 _ _ (exG (x4x rfl (z5z (b := 1) rfl rfl (by omega) (x0x rfl ?_))))⟩
   exact ⟨j + 1, ⟨by omega, by omega⟩, [], (Cov.cons' (t := 10) rfl (by rw [w0w hz]; (simp [hin]; done)) (y3y 11 rfl Cov.nil)), cv, hv, hv, rfl⟩
  have hin : ¬ x ∈ (swK b a k).take j := by simpa using hg13
  refine x1x 2 rfl rfl (z1z rfl rfl (y8y rfl rfl u9u rfl u0u rfl hx (x1x 3 rfl rfl (z1z rfl rfl (y8y rfl rfl u9u rfl u0u rfl hz (z1z rfl rfl (u4u rfl u0u rfl rfl (z1z rfl rfl (b0t rfl rfl (by intro a c h; cases h) (.inl rfl) (f0j _ _ _ _) ?_)))))))))
  refine x1x 2 rfl rfl ⟨by kernel_rfl, hK12 _ _ (exG (x4x rfl (z5z (b := 1) rfl rfl (by omega) (x0x rfl ?_))))⟩
  exact ⟨j + 1, ⟨by omega, by omega⟩, [], (Cov.cons' (t := 10) rfl (by rw [w0w hz]; (simp [hin]; rfl)) (y3y 11 rfl Cov.nil)), cv, hv, hv, rfl⟩
 obtain rfl : j = (swK b a k).length := by omega
 rw [List.take_length]
 refine z4z (hK9 _ _ (exA 3 rfl rfl (z6z rfl rfl ?_ ?_)))<;>intro hg14<;>try simp at hg14
 ·have hn : ¬ (g ≤ x.time ∧ x.time < chg g (swK b a k) (e7v g a b k) ((swK a b k).take i) ∧ ¬ x ∈ swK b a k) := fun q => q.2.2 (by simpa using hg14)
  refine x1x 16 rfl rfl (x8x rfl (fun hc18 => ?_) (fun hc18 => ?_))
  ·simp at hc18
  try simp at hc18
  refine x7x (hK8 _ _ (exG (x4x rfl (z5z (b := 1) rfl rfl (by omega) (x0x rfl ?_)))))
  exact ⟨i + 1, ⟨by omega, by omega⟩, [], (Cov.cons' (t := 7) rfl (by rw [b7y hx, if_neg hn]) (y3y 9 rfl Cov.nil)), cv, hv, hv, rfl⟩
 have hm : ¬ x ∈ swK b a k := by simpa using hg14
 refine x1x 2 rfl rfl (z1z rfl rfl (y8y rfl rfl u9u rfl u0u rfl hx (x1x 6 rfl rfl (z6z rfl rfl ?_ ?_))))<;>intro o<;>try simp at o
 ·have hn : ¬ (g ≤ x.time ∧ x.time < chg g (swK b a k) (e7v g a b k) ((swK a b k).take i) ∧ ¬ x ∈ swK b a k) := fun q => (by have := q.1; omega)
  refine x1x 7 rfl rfl (x8x rfl (fun hc17 => ?_) (fun hc17 => ?_))
  ·simp at hc17
  try simp at hc17
  refine x7x (hK8 _ _ (exG (x4x rfl (z5z (b := 1) rfl rfl (by omega) (x0x rfl ?_)))))
  exact ⟨i + 1, ⟨by omega, by omega⟩, [], (Cov.cons' (t := 7) rfl (by rw [b7y hx, if_neg hn]) (y3y 9 rfl Cov.nil)), cv, hv, hv, rfl⟩
 refine x1x 2 rfl rfl (z1z rfl rfl (y8y rfl rfl u9u rfl u0u rfl hx (x1x 5 rfl rfl (y2y rfl ?_ ?_))))<;>intro o<;>try simp at o
 ·have hn : ¬ (g ≤ x.time ∧ x.time < chg g (swK b a k) (e7v g a b k) ((swK a b k).take i) ∧ ¬ x ∈ swK b a k) := by exact fun q => (by have := q.2.1; omega)
  refine x7x (hK8 _ _ (exG (x4x rfl (z5z (b := 1) rfl rfl (by omega) (x0x rfl ?_)))))
  exact ⟨i + 1, ⟨by omega, by omega⟩, [], (Cov.cons' (t := 7) rfl (by rw [b7y hx, if_neg hn]) (y3y 9 rfl Cov.nil)), cv, hv, hv, rfl⟩
 have hy : g ≤ x.time ∧ x.time < chg g (swK b a k) (e7v g a b k) ((swK a b k).take i) ∧ ¬ x ∈ swK b a k := ⟨by omega, by omega, hm⟩
 refine exG (x1x 2 rfl rfl (y8y rfl rfl u9u rfl u0u rfl hx (x1x 3 rfl rfl (hK8 _ _ (exG (x4x rfl (z5z (b := 1) rfl rfl (by omega) (x0x rfl ?_))))))))
 exact ⟨i + 1, ⟨by omega, by omega⟩, [], (Cov.cons' (t := 7) rfl (by (rw [b7y hx, if_pos hy] <;> rfl)) (y3y 9 rfl Cov.nil)), cv, hv, hv, rfl⟩
theorem b4a (n : Nd) (hw : wk n) : Meth Tryz.prog 171 3 [0, 1, 2] [.agg [pI n.id, .pv (.bool n.up), pI n.inc, pI n.g, .ref 0 0, a1y true n.kept, a0p true n.outs, pI n.led, pI n.version, .ref 1 0, .ref 2 0, pI n.round, pI n.low]] [(0, (0, .row 44 5 ((n.lanes).map (a0f true)))), (1, (0, .row 190 3 ((n.views).map (a4g true)))), (2, (0, .row 3 1 (n.known.map a6c)))] (.agg [pI (nl n (a0o n n.lanes)).id, .pv (.bool (nl n (a0o n n.lanes)).up), pI (nl n (a0o n n.lanes)).inc, pI (nl n (a0o n n.lanes)).g, .ref 0 0, a1y true (nl n (a0o n n.lanes)).kept, a0p true (nl n (a0o n n.lanes)).outs, pI (nl n (a0o n n.lanes)).led, pI (nl n (a0o n n.lanes)).version, .ref 1 0, .ref 2 0, pI (nl n (a0o n n.lanes)).round, pI (nl n (a0o n n.lanes)).low]) [(0, (0, .row 44 5 ((a0o n n.lanes).map (a0f true))))] := by
 refine mX Tryz.f171 [.agg [pI (nl n (a0o n n.lanes)).id, .pv (.bool (nl n (a0o n n.lanes)).up), pI (nl n (a0o n n.lanes)).inc, pI (nl n (a0o n n.lanes)).g, .ref 0 0, a1y true (nl n (a0o n n.lanes)).kept, a0p true (nl n (a0o n n.lanes)).outs, pI (nl n (a0o n n.lanes)).led, pI (nl n (a0o n n.lanes)).version, .ref 1 0, .ref 2 0, pI (nl n (a0o n n.lanes)).round, pI (nl n (a0o n n.lanes)).low]] 3 2 fun γ => ?_
 refine exR (z7z (id := 3) rfl rfl rfl (y7y (id := 4) y5y s5s rfl (exR (x0x rfl (x2x fun K1 hK1 => ?_)))))
 refine y0y ?_
 refine z3z (ι := List La × Bool) (fun p γ1 => [(3, .pv (.bool (p.2)))]) (fun p γ1 => [(0, ((γ 0), .row 44 5 ((p.1).map (a0f true))))]) (fun p => (p.2 = true → a0o n p.1 = a0o n n.lanes) ∧ (p.2 = false → p.1 = a0o n n.lanes) ∧ wk (nl n p.1)) (fun p => 2 * c7u p.1 + p.2.toNat) (cK [1, 2] rfl) (hK [1, 2, 3, 4] rfl) (n.lanes, true) ⟨fun _ => rfl, fun h => (by cases h), hw⟩ [] cv hv rfl fun p γ1 hi => ?_
 obtain ⟨ls, q⟩ := p
 obtain ⟨h1, h2, h3⟩ := hi
 dsimp only at h1 h2 h3 ⊢
 refine x2x fun K2 hK2 => ?_
 refine exR (x4x rfl (y2y rfl ?_ ?_))<;>intro hc3<;>try simp at hc3
 ·have hq : q = false := by simpa using hc3
  subst hq
  have hfin : ls = a0o n n.lanes := h2 rfl
  refine z4z (hK1 _ _ (exR (x5x rfl y5y rfl rfl rfl (x3x rfl rfl y5y rfl rfl rfl rfl ?_))))
  subst hfin
  refine x6x ?_
  exact ⟨.inr rfl, [γ 0, γ 1, γ 2], rfl, rfl, hv⟩
 have hq : q = true := hc3
 subst hq
 refine x7x (hK2 _ _ (y0y (exR (x0x rfl (exR (x0x rfl (y0y ?_)))))))
 refine z3z (ι := Nat) (fun i γ2 => [(3, .pv (.bool (b1z n ls i))), (4, pI (i : Int))]) (fun i γ2 => [(0, ((γ 0), .row 44 5 ((a3q n ls i).map (a0f true))))]) (fun i => i ≤ ls.length) (fun i => ls.length - i) (cK [1, 2] rfl) (hK [1, 2, 3, 4] rfl) 0 (by omega) [] (Cov.cons' (t := 3) rfl (rfl) (y3y 4 rfl Cov.nil)) hv rfl fun i γ2 hi => ?_
 refine x2x fun K4 hK4 => ?_
 refine exA 3 rfl rfl (a1l rfl q6q rfl rfl (List.length_map _) ?_)
 refine v1v rfl rfl rfl (y2y rfl ?_ ?_)<;>intro o<;>try simp at o
 ·have hpl : (a3q n ls i).length = ls.length := c7v n ls i
  obtain rfl : i = ls.length := by omega
  refine z4z ?_
  exact ⟨(a3q n ls ls.length, b1z n ls ls.length), ⟨⟨fun h => (c7w h).trans (h1 rfl), fun h => (c0w h).trans (h1 rfl), c2v h3 _⟩, (f0c n ls ls.length)⟩, [], cv, cv, hv, hv, rfl⟩
 have hpl : (a3q n ls i).length = ls.length := c7v n ls i
 obtain ⟨l, hp⟩ := gE (a3q n ls i) i
 have h4 := c2v h3 i
 have h41 : (a3q n ls i).length ≤ 4 := h4.1
 have hb4 := h4.2.2.2.2.1 l (List.mem_of_getElem? hp)
 refine x7x (hK4 _ _ (x2x fun K6 hK6 => ?_))
 refine y0y (exD (x1x 3 rfl rfl ?_))
 refine v2v (j := i) rfl rfl q6q rfl v6v rfl rfl (v5v hp) ?_
 refine q7q rfl v6v rfl hp rfl rfl (x1x 4 rfl rfl ?_)
 refine v2v (j := i) rfl rfl q6q rfl v6v rfl rfl (v5v hp) ?_
 refine y1y rfl v6v rfl rfl q5q rfl rfl (a1h rfl q5q rfl hp rfl ?_)
 refine b6c rfl rfl rfl (c2x (n := nl n (a3q n ls i)) rfl rfl rfl (.cl rfl .nil)) (a5d false (nl n (a3q n ls i)) l.proc (e9z h4) (by have := h4.1; omega) h4.2.2.1) (b1g _) ?_
 refine x9x rfl rfl rfl (b0c true true l (a2m (nl n (a3q n ls i)) l.proc)) ?_
 refine x0x rfl ⟨by kernel_rfl, exA 4 rfl rfl ?_⟩
 refine v2v (j := i) rfl rfl q6q rfl v6v rfl rfl (v5v hp) ?_
 refine y1y rfl v6v rfl rfl r0r rfl rfl (a1h rfl r0r rfl hp rfl (z2z rfl r0r rfl (v1v rfl rfl rfl (y2y rfl ?_ ?_))))<;>intro o<;>try simp at o
 ·have hk := e1j (n := n) hp (by show ¬ same l.done (a2m (nl n (a3q n ls i)) l.proc) < l.done.length; omega)
  refine x7x (hK6 _ _ (exG (x4x rfl (p7p rfl rfl rfl (x0x rfl ?_)))))
  exact ⟨i + 1, ⟨by omega, by omega⟩, [], (Cov.cons' (t := 3) rfl (by rw [c5y, hk.2, Bool.or_false]) (Cov.cons' (t := 4) rfl (by rw [u2u (by omega) (by omega)]; rfl) Cov.nil)), cv, (HE.row rfl (by rw [d0w, hk.1]) HE.nil), hv, rfl⟩
 have hk := e1i (n := n) hp (by show same l.done (a2m (nl n (a3q n ls i)) l.proc) < l.done.length; omega)
 refine exD (x1x 6 rfl rfl ?_)
 refine v2v (j := i) rfl rfl q6q rfl v6v rfl rfl (v5v hp) ?_
 refine q7q rfl v6v rfl hp rfl rfl (x4x rfl ?_)
 refine x9x rfl rfl rfl (a3x true l 0 (keep n (a3q n ls i) l) (by omega) (by omega) (by have := f0a n (a3q n ls i) l; omega) (fun p hp => by have := hb4.2 p hp; omega)) ?_
 refine v2v (j := i) rfl rfl q6q rfl v6v rfl rfl (v5v hp) ?_
 refine q9q (el' := a2x l 0 (keep n (a3q n ls i) l)) rfl rfl v6v rfl rfl rfl hp rfl (a0j rfl) rfl rfl ?_
 refine ⟨by kernel_rfl, exG (x0x rfl (hK6 _ _ (exG (x4x rfl (p7p rfl rfl rfl (x0x rfl ?_))))))⟩
 exact ⟨i + 1, ⟨by omega, by omega⟩, [], (Cov.cons' (t := 3) rfl (by rw [c5y, hk.2, Bool.or_true]) (Cov.cons' (t := 4) rfl (by rw [u2u (by omega) (by omega)]; rfl) Cov.nil)), cv, (HE.row rfl (by rw [d0w, hk.1]) HE.nil), hv, rfl⟩
theorem b2q (c : Bool) (n m : Nd) (hn : wk n) (hm : wk m) (hid : n.id = m.id) (hv : 0 ≤ n.version ∧ n.version ≤ 9998) : Meth Tryz.prog 170 3 [0, 1, 2] [.agg (w6w c n), .agg [pI m.id, .pv (.bool m.up), pI m.inc, pI m.g, .ref 0 0, a1y true m.kept, a0p true m.outs, pI m.led, pI m.version, .ref 1 0, .ref 2 0, pI m.round, pI m.low]] [(0, (0, .row 44 5 ((m.lanes).map (a0f true)))), (1, (0, .row 190 3 ((m.views).map (a4g true)))), (2, (0, .row 3 1 (m.known.map a6c)))] (.agg [pI ({ m with version := a6j n m 3 } : Nd).id, .pv (.bool ({ m with version := a6j n m 3 } : Nd).up), pI ({ m with version := a6j n m 3 } : Nd).inc, pI ({ m with version := a6j n m 3 } : Nd).g, .ref 0 0, a1y true ({ m with version := a6j n m 3 } : Nd).kept, a0p true ({ m with version := a6j n m 3 } : Nd).outs, pI ({ m with version := a6j n m 3 } : Nd).led, pI ({ m with version := a6j n m 3 } : Nd).version, .ref 1 0, .ref 2 0, pI ({ m with version := a6j n m 3 } : Nd).round, pI ({ m with version := a6j n m 3 } : Nd).low]) [] := by
 refine mX Tryz.f170 [.agg [pI ({ m with version := a6j n m 3 } : Nd).id, .pv (.bool ({ m with version := a6j n m 3 } : Nd).up), pI ({ m with version := a6j n m 3 } : Nd).inc, pI ({ m with version := a6j n m 3 } : Nd).g, .ref 0 0, a1y true ({ m with version := a6j n m 3 } : Nd).kept, a0p true ({ m with version := a6j n m 3 } : Nd).outs, pI ({ m with version := a6j n m 3 } : Nd).led, pI ({ m with version := a6j n m 3 } : Nd).version, .ref 1 0, .ref 2 0, pI ({ m with version := a6j n m 3 } : Nd).round, pI ({ m with version := a6j n m 3 } : Nd).low]] 3 3 fun γ => ?_
 refine exR (z7z (id := 3) rfl rfl rfl (z7z (id := 4) rfl rfl rfl (y7y (id := 5) y5y s5s rfl (x2x fun K1 hK1 => ?_))))
 refine exR (x0x rfl (y0y ?_))
 refine z3z (ι := Nat) (fun k γ1 => [(5, pI (k : Int))]) (fun k γ1 => [(4, ((0 + 1), .box 65 [pI m.id, .pv (.bool m.up), pI m.inc, pI m.g, .ref 0 (γ 0), a1y true m.kept, a0p true m.outs, pI m.led, pI (a6j n m k), .ref 1 (γ 1), .ref 2 (γ 2), pI m.round, pI m.low]))]) (fun k => k ≤ 3) (fun k => 3 - k) (cK [2, 3, 4] rfl) (hK [0, 1, 2, 3, 5] rfl) 0 (by omega) [] cv (HE.box rfl (by rfl) HE.nil) rfl fun k γ1 hi => ?_
 refine x2x fun K2 hK2 => ?_
 refine exA 2 rfl rfl (y2y rfl ?_ ?_)<;>intro o<;>try simp at o
 ·obtain rfl : k = 3 := by omega
  refine z4z (hK1 _ _ (exR (x5x rfl y5y rfl rfl rfl (x3x rfl rfl y5y rfl rfl rfl rfl (x6x ?_)))))
  exact ⟨.inr rfl, [γ 0, γ 1, γ 2], rfl, rfl, HE.same (id := 0) rfl (z0z 1 rfl (z0z 2 rfl HE.nil))⟩
 refine x7x (hK2 _ _ (x2x fun K4 hK4 => ?_))
 refine y0y (exD (x1x 5 rfl rfl (z6z rfl rfl ?_ ?_)))<;>intro hg5<;>try simp at hg5
 ·have hs : (k : Int) = m.id ∨ a4c n (k : Int) = a4c m (k : Int) := .inl hg5
  refine x1x 8 rfl rfl ⟨by kernel_rfl, x8x rfl (fun hc7 => ?_) (fun hc7 => ?_)⟩
  ·simp at hc7
  try simp at hc7
  refine x7x (hK4 _ _ (exG (x4x rfl (p7p rfl rfl rfl (x0x rfl ?_)))))
  exact ⟨k + 1, ⟨by omega, by omega⟩, [], (Cov.cons' (t := 5) rfl (by rw [u2u (by omega) (by omega)]; rfl) Cov.nil), (y3y 2 rfl (y3y 3 rfl (y3y 4 rfl Cov.nil))), (HE.box rfl (by rw [e1m hid hs]) HE.nil), (z0z 0 rfl (z0z 1 rfl (z0z 2 rfl (z0z 3 rfl (z0z 5 rfl HE.nil))))), rfl⟩
 have hi0 : ¬ (k : Int) = m.id := hg5
 refine x1x 2 rfl rfl (z1z rfl rfl ?_)
 refine x9x rfl rfl rfl (a8v c n k (by omega) hn.2.2.2.1 (by have := d3b hn; omega) (by have := hn.1; omega)) ?_
 refine x1x 2 rfl rfl (z1z rfl rfl ?_)
 refine b6c rfl rfl rfl (c2x (n := ({ m with version := a6j n m k } : Nd)) rfl rfl rfl (.cl rfl .nil)) (a8v false ({ m with version := a6j n m k } : Nd) k (by omega) hm.2.2.2.1 (by have := d3b hm; show (a2c m).length ≤ 5000000; omega) (by have := hm.1; show m.lanes.length ≤ 1048576; omega)) (b1g _) ?_
 refine z1z rfl rfl (x9x rfl rfl rfl (c4r true true (a4c n (k : Int)) (a4c m (k : Int))) ?_)
 refine x1x 2 rfl rfl ⟨by kernel_rfl, y2y rfl ?_ ?_⟩<;>intro hc6<;>try simp at hc6
 ·have hs : (k : Int) = m.id ∨ a4c n (k : Int) = a4c m (k : Int) := .inr hc6
  refine x7x (hK4 _ _ (exG (x4x rfl (p7p rfl rfl rfl (x0x rfl ?_)))))
  exact ⟨k + 1, ⟨by omega, by omega⟩, [], (Cov.cons' (t := 5) rfl (by rw [u2u (by omega) (by omega)]; rfl) Cov.nil), (y3y 2 rfl (y3y 3 rfl (y3y 4 rfl Cov.nil))), (HE.box rfl (by rw [e1m hid hs]) HE.nil), (z0z 0 rfl (z0z 1 rfl (z0z 2 rfl (z0z 3 rfl (z0z 5 rfl HE.nil))))), rfl⟩
 have hd : ¬ a4c n (k : Int) = a4c m (k : Int) := hc6
 refine exG (x1x 2 rfl rfl (a0r (.int .i64 (n.version + 1)) rfl rfl rfl (a7f rfl rfl (by omega) (by omega)) ?_))
 refine y1y rfl y5y rfl rfl q5q rfl rfl (y9y rfl rfl q5q rfl rfl rfl rfl rfl (by simp only [a0y]; rfl) ?_)
 refine hK4 _ _ (exG (x4x rfl (p7p rfl rfl rfl (x0x rfl ?_))))
 exact ⟨k + 1, ⟨by omega, by omega⟩, [], (Cov.cons' (t := 5) rfl (by rw [u2u (by omega) (by omega)]; rfl) Cov.nil), (y3y 2 rfl (y3y 3 rfl (y3y 4 rfl Cov.nil))), (HE.box rfl (by (rw [f0e hid hi0 hd] <;> rfl)) HE.nil), (z0z 0 rfl (z0z 1 rfl (z0z 2 rfl (z0z 3 rfl (z0z 5 rfl HE.nil))))), rfl⟩
end
section
theorem c3n (apps : List Ap) (n : Nd) (q : Int) (hn : ndI n) (hA : a7l apps) : MethE Tryz.prog 321 0 [a6k true apps, .agg (w6w true n), .pv (.int .i64 q)] [] (ι := Nd × Bool) (fun S' => ndI S'.1) (fun S' => []) (fun S' => .tup [.agg (w6w true S'.1), .pv (.bool (S'.2))]) (fun S' => []) := by
 refine mE (ι := Nd × Bool) Tryz.f321 (fun S' => [.agg (w6w true S'.1), .pv (.bool (S'.2))]) 0 10 fun γ => ?_
 have fK := hn.1
 have fS := fK.1
 have fB := r8r fS
 have fb := b9d fS
 have hb : ∀ a ∈ apps, ∀ r ∈ a.rules, r.ops.length ≤ 1048576 := fun a ha r hr => by obtain ⟨i, hi⟩ := List.getElem?_of_mem hr; have := ((hA.2 a ha).2 i r hi).2.1.2.1; omega
 refine exR (z7z (id := 0) rfl rfl rfl (y7y (id := 1) y5y s5s rfl (x0x rfl (x2x fun K1 hK1 => ?_))))
 refine exR (x5x rfl y5y rfl rfl rfl (x9x rfl rfl rfl (r6r true n) (a1k rfl (x8x rfl ?_ ?_))))<;>intro hc2<;>try simp at hc2
 ·exact absurd fK (a0z (by simpa using hc2))
 refine x7x (hK1 _ _ (a1b fun B X0 w0 => ?_))
 refine txR 2 rfl rfl (x1x 2 rfl rfl ?_)
 refine txM [] [] (c4p n q (by omega)) rfl rfl rfl rfl fun j hj => ?_
 refine txR 1 rfl rfl (x0x rfl (w1w rfl (x2x fun K3 hK3 => ?_)))
 refine exD (x1x 4 rfl rfl (z6z rfl rfl ?_ ?_))<;>intro o<;>try simp at o
 ·refine x1x 13 rfl rfl ⟨by kernel_rfl, x8x rfl (fun hc14 => ?_) (fun hc14 => ?_)⟩
  rotate_left
  ·simp at hc14
  try simp at hc14
  refine exR (x5x rfl y5y rfl rfl rfl ?_)
  refine rlM [7, 8, 9] [_, _, _] (u1u true n fb) rfl rfl rfl ?_
  refine x3x rfl rfl y5y rfl rfl rfl rfl (x0x rfl ?_)
  (refine w9w (b := b8a true n.lanes) 1 4 rfl rfl rfl (.ref rfl (Le.ow_map _ (fun _ => rfl) (fun _ => rfl)) .nil) rfl rfl rfl rfl ?_; refine w9w (b := b9h true n.views) 1 9 rfl rfl rfl (.ref rfl (Le.ow_map _ (fun _ => rfl) (fun _ => rfl)) .nil) rfl rfl rfl rfl ?_; refine w9w (b := a4l true n.known) 1 10 rfl rfl rfl (.ref rfl (Le.ow_map _ (fun _ => rfl) (fun _ => rfl)) .nil) rfl rfl rfl rfl ?_)
  refine x6x ?_
  exact ⟨.inr rfl, (n, false), hn, [], rfl, rfl, hv⟩
 refine x4x rfl (z1z rfl rfl (x9x rfl rfl rfl (a9p true apps hb) (x1x 3 rfl rfl (z6z rfl rfl ?_ ?_))))<;>intro o<;>try simp at o
 ·refine x1x 8 rfl rfl ⟨by kernel_rfl, x8x rfl (fun hc13 => ?_) (fun hc13 => ?_)⟩
  rotate_left
  ·simp at hc13
  try simp at hc13
  refine exR (x5x rfl y5y rfl rfl rfl ?_)
  refine rlM [7, 8, 9] [_, _, _] (u1u true n fb) rfl rfl rfl ?_
  refine x3x rfl rfl y5y rfl rfl rfl rfl (x0x rfl ?_)
  (refine w9w (b := b8a true n.lanes) 1 4 rfl rfl rfl (.ref rfl (Le.ow_map _ (fun _ => rfl) (fun _ => rfl)) .nil) rfl rfl rfl rfl ?_; refine w9w (b := b9h true n.views) 1 9 rfl rfl rfl (.ref rfl (Le.ow_map _ (fun _ => rfl) (fun _ => rfl)) .nil) rfl rfl rfl rfl ?_; refine w9w (b := a4l true n.known) 1 10 rfl rfl rfl (.ref rfl (Le.ow_map _ (fun _ => rfl) (fun _ => rfl)) .nil) rfl rfl rfl rfl ?_)
  refine x6x ?_
  exact ⟨.inr rfl, (n, false), hn, [], rfl, rfl, hv⟩
 refine x1x 4 rfl rfl (z6z rfl rfl ?_ ?_)<;>intro o<;>try simp at o
 ·refine x1x 4 rfl rfl ⟨by kernel_rfl, x8x rfl (fun hc12 => ?_) (fun hc12 => ?_)⟩
  rotate_left
  ·simp at hc12
  try simp at hc12
  refine exR (x5x rfl y5y rfl rfl rfl ?_)
  refine rlM [7, 8, 9] [_, _, _] (u1u true n fb) rfl rfl rfl ?_
  refine x3x rfl rfl y5y rfl rfl rfl rfl (x0x rfl ?_)
  (refine w9w (b := b8a true n.lanes) 1 4 rfl rfl rfl (.ref rfl (Le.ow_map _ (fun _ => rfl) (fun _ => rfl)) .nil) rfl rfl rfl rfl ?_; refine w9w (b := b9h true n.views) 1 9 rfl rfl rfl (.ref rfl (Le.ow_map _ (fun _ => rfl) (fun _ => rfl)) .nil) rfl rfl rfl rfl ?_; refine w9w (b := a4l true n.known) 1 10 rfl rfl rfl (.ref rfl (Le.ow_map _ (fun _ => rfl) (fun _ => rfl)) .nil) rfl rfl rfl rfl ?_)
  refine x6x ?_
  exact ⟨.inr rfl, (n, false), hn, [], rfl, rfl, hv⟩
 refine x1x 2 rfl rfl (z1z rfl rfl (x9x rfl rfl rfl (w5w ..) (x1x 2 rfl rfl ⟨by kernel_rfl, x8x rfl ?_ ?_⟩)))<;>intro o<;>try simp at o
 ·refine exR (x5x rfl y5y rfl rfl rfl ?_)
  refine rlM [7, 8, 9] [_, _, _] (u1u true n fb) rfl rfl rfl ?_
  refine x3x rfl rfl y5y rfl rfl rfl rfl (x0x rfl ?_)
  (refine w9w (b := b8a true n.lanes) 1 4 rfl rfl rfl (.ref rfl (Le.ow_map _ (fun _ => rfl) (fun _ => rfl)) .nil) rfl rfl rfl rfl ?_; refine w9w (b := b9h true n.views) 1 9 rfl rfl rfl (.ref rfl (Le.ow_map _ (fun _ => rfl) (fun _ => rfl)) .nil) rfl rfl rfl rfl ?_; refine w9w (b := a4l true n.known) 1 10 rfl rfl rfl (.ref rfl (Le.ow_map _ (fun _ => rfl) (fun _ => rfl)) .nil) rfl rfl rfl rfl ?_)
  refine x6x ?_
  exact ⟨.inr rfl, (n, false), hn, [], rfl, rfl, hv⟩
 have hv9 : n.version < 9999 := by omega
 obtain ⟨i, l, hji, hl, hlp⟩ := hj.resolve_left (by omega)
 subst hji
 have hln := c2m fK hl
 have hp3 := (d1g hln.2.1).1
 obtain ⟨qn, rfl⟩ : ∃ qn : Nat, q = (qn : Int) := ⟨q.toNat, by omega⟩
 have hA4 := hA.1
 obtain ⟨a, ha⟩ := gE apps qn
 have hap := hA.2 a (List.mem_of_getElem? ha)
 have hv0 := fS.1.2.2.2.2.1.1
 refine x7x (hK3 _ _ (d3h 12 (b5i s3s 0 12 rfl rfl ?_)))
 refine x1x 2 rfl rfl (y8y rfl rfl b3c rfl a2f rfl ha ?_)
 refine v9v (out := .agg (c0h true a)) rfl a2f rfl ?_
 refine x1x 3 rfl rfl (y8y rfl rfl q6q rfl v6v rfl hl ?_)
 refine v9v (out := .agg (a0f true l)) rfl v6v rfl ?_
 refine x1x 2 rfl rfl (x9x rfl rfl rfl (a5d true n (qn : Int) (b4r fS) (by omega) fS.2.2.2.2.2.1) ?_)
 refine b5i s3s 16 1 rfl rfl ?_
 refine y7y (id := 2) v6v a7p rfl (b6o c4g (by rfl) [] [] (c3k a l (a2m n (qn : Int)) hap hln.2.1) rfl rfl rfl rfl (by decide) rfl rfl (by repeat (exact InH.nil)) (fun _ => (by (simp only [pI, a2q, a2r, b8m, gl, nx, a6t, Nat.beq]; rfl))) (fun _ => (by (simp only [pI, a2q, a2r, b8m, gl, nx, a6t, Nat.beq]; rfl))) (l, false) (by intro h; simp at h) fun r hr => ?_)
 refine b5j s3s 13 3 rfl rfl ?_
 refine x1x 3 rfl rfl (b5j s3s 17 2 rfl rfl ?_)
 refine x3x rfl rfl v6v rfl rfl rfl rfl (x0x rfl (c3b (by kernel_rfl) ?_))
 refine x2x fun K8 hK8 => ?_
 refine exA 2 rfl rfl (x8x rfl ?_ ?_)<;>intro hc9<;>try simp at hc9
 ·refine exR (x5x rfl y5y rfl rfl rfl ?_)
  refine rlM [7, 8, 9] [_, _, _] (u1u true n fb) rfl rfl rfl ?_
  refine x3x rfl rfl y5y rfl rfl rfl rfl (x0x rfl ?_)
  (refine w9w (b := b8a true n.lanes) 1 4 rfl rfl rfl (.ref rfl (Le.ow_map _ (fun _ => rfl) (fun _ => rfl)) .nil) rfl rfl rfl rfl ?_; refine w9w (b := b9h true n.views) 1 9 rfl rfl rfl (.ref rfl (Le.ow_map _ (fun _ => rfl) (fun _ => rfl)) .nil) rfl rfl rfl rfl ?_; refine w9w (b := a4l true n.known) 1 10 rfl rfl rfl (.ref rfl (Le.ow_map _ (fun _ => rfl) (fun _ => rfl)) .nil) rfl rfl rfl rfl ?_)
  refine x6x ?_
  exact ⟨.inr rfl, (n, false), hn, [], rfl, rfl, hv⟩
 obtain ⟨p, hp1, hroom, hpb⟩ := hr hc9
 rw [hp1]
 have hwM := e6n (e5p fS) hl hroom hpb
 have hoM := e3c hn.2 hl hpb
 have hwA : wk (nl (nl n (n.lanes.set i (a3h l p))) (a0o (nl n (n.lanes.set i (a3h l p))) (nl n (n.lanes.set i (a3h l p))).lanes)) := c7x _ (Nat.le_refl _) hwM
 refine x7x (hK8 _ _ (exR (x5x rfl y5y rfl rfl rfl ?_)))
 refine rlM [4, 5, 6] [_, _, _] (u1u true n fb) rfl rfl rfl ?_
 refine y7y (id := 3) y5y s5s rfl (x3x rfl rfl y5y rfl rfl rfl rfl (exA 4 rfl rfl ?_))
 refine v2v (j := i) rfl rfl q6q rfl v6v rfl rfl (v5v hl) ?_
 refine q9q (el' := a3h l p) rfl rfl v6v rfl rfl rfl hl rfl (a0j rfl) rfl rfl ?_
 refine exD (x1x 2 rfl rfl ?_)
 refine rlM [4, 5, 6] [_, _, _] (b4a (nl n (n.lanes.set i (a3h l p))) hwM) rfl rfl rfl ?_
 refine rlM [4, 5, 6] [_, _, _] (b2q true n (nl (nl n (n.lanes.set i (a3h l p))) (a0o (nl n (n.lanes.set i (a3h l p))) (nl n (n.lanes.set i (a3h l p))).lanes)) (e5p fS) hwA rfl ⟨hv0, by omega⟩) rfl rfl rfl ?_
 refine x3x rfl rfl y5y rfl rfl rfl rfl ⟨by kernel_rfl, x2x fun K10 hK10 => ?_⟩
 refine w9w (b := b8a true (a9x n (nl n (n.lanes.set i (a3h l p)))).lanes) 3 4 rfl rfl rfl (.ref rfl (Le.ow_map _ (fun _ => rfl) (fun _ => rfl)) .nil) rfl rfl rfl rfl ?_
 refine w9w (b := b9h true (a9x n (nl n (n.lanes.set i (a3h l p)))).views) 3 9 rfl rfl rfl (.ref rfl (Le.ow_map _ (fun _ => rfl) (fun _ => rfl)) .nil) rfl rfl rfl rfl ?_
 refine w9w (b := a4l true (a9x n (nl n (n.lanes.set i (a3h l p)))).known) 3 10 rfl rfl rfl (.ref rfl (Le.ow_map _ (fun _ => rfl) (fun _ => rfl)) .nil) rfl rfl rfl rfl ?_
 refine exR (x5x rfl y5y rfl rfl rfl (x9x rfl rfl rfl (r6r true (a9x n (nl n (n.lanes.set i (a3h l p))))) ?_))
 refine a1k rfl (x8x rfl ?_ ?_)<;>intro hc11<;>try simp at hc11
 ·refine exR (x5x rfl y5y rfl rfl rfl ?_)
  refine rlM [7, 8, 9] [_, _, _] (u1u true n fb) rfl rfl rfl ?_
  refine x3x rfl rfl y5y rfl rfl rfl rfl (x0x rfl ?_)
  (refine w9w (b := b8a true n.lanes) 1 4 rfl rfl rfl (.ref rfl (Le.ow_map _ (fun _ => rfl) (fun _ => rfl)) .nil) rfl rfl rfl rfl ?_; refine w9w (b := b9h true n.views) 1 9 rfl rfl rfl (.ref rfl (Le.ow_map _ (fun _ => rfl) (fun _ => rfl)) .nil) rfl rfl rfl rfl ?_; refine w9w (b := a4l true n.known) 1 10 rfl rfl rfl (.ref rfl (Le.ow_map _ (fun _ => rfl) (fun _ => rfl)) .nil) rfl rfl rfl rfl ?_)
  refine x6x ?_
  exact ⟨.inr rfl, (n, false), hn, [], rfl, rfl, hv⟩
 have fK2 : u3u (a9x n (nl n (n.lanes.set i (a3h l p)))) := a1x.1 (by simpa using hc11)
 have fb2 := b9d fK2.1
 refine x7x (hK10 _ _ (exR (x5x rfl y5y rfl rfl rfl ?_)))
 refine rlM [7, 8, 9] [_, _, _] (u1u true (a9x n (nl n (n.lanes.set i (a3h l p)))) fb2) rfl rfl rfl ?_
 refine x3x rfl rfl y5y rfl rfl rfl rfl (x0x rfl ?_)
 (refine w9w (b := b8a true (a9x n (nl n (n.lanes.set i (a3h l p)))).lanes) 1 4 rfl rfl rfl (.ref rfl (Le.ow_map _ (fun _ => rfl) (fun _ => rfl)) .nil) rfl rfl rfl rfl ?_; refine w9w (b := b9h true (a9x n (nl n (n.lanes.set i (a3h l p)))).views) 1 9 rfl rfl rfl (.ref rfl (Le.ow_map _ (fun _ => rfl) (fun _ => rfl)) .nil) rfl rfl rfl rfl ?_; refine w9w (b := a4l true (a9x n (nl n (n.lanes.set i (a3h l p)))).known) 1 10 rfl rfl rfl (.ref rfl (Le.ow_map _ (fun _ => rfl) (fun _ => rfl)) .nil) rfl rfl rfl rfl ?_)
 refine x6x ?_
 exact ⟨.inr rfl, ((a9x n (nl n (n.lanes.set i (a3h l p)))), true), ⟨fK2, c6f hoM⟩, [], rfl, rfl, hv⟩
end
section
theorem b5p (c : Bool) (l : List Int) : a1o Tryz.prog 259 [a4l c l] (.pv (.bool (decide (c4l l)))) := by
 refine pX Tryz.f259 [.pv (.bool (decide (c4l l)))] 0 ?_
 refine p2p 0 rfl fun hlen => ?_
 refine exR (x0x rfl (x2x fun K1 hK1 => ?_))
 refine exR (x4x rfl (z2z rfl q1q rfl (x1x 2 rfl rfl (z6z rfl rfl ?_ ?_))))<;>intro o<;>try simp at o
 ·refine x1x 3 rfl rfl (x8x rfl (fun hc9 => ?_) (fun hc9 => ?_))
  ·simp at hc9
  try simp at hc9
  have hL : l.length = 0 ∨ l.length = 3 := by (simp_all; done)
  refine x7x (hK1 _ _ (x2x fun K10 hK10 => ?_))
  refine exR (x0x rfl (y0y ?_))
  refine z3z (ι := Nat) (fun i γ2 => [(3, pI (i : Int))]) (fun i γ2 => []) (fun i => i ≤ l.length ∧ c8y l (fun _ v => 0 ≤ v ∧ v ≤ 9999) i) (fun i => l.length - i) (y3y 0 rfl Cov.nil) HE.nil 0 ⟨by omega, a2l⟩ [] cv hv rfl fun i γ2 hi => ?_
  obtain ⟨h1, h2⟩ := hi
  refine x2x fun K11 hK11 => ?_
  refine exA 2 rfl rfl (z2z rfl q1q rfl (v1v rfl rfl rfl (y2y rfl ?_ ?_)))<;>intro o<;>try simp at o
  ·have hall := a4b h2 (by omega)
   refine z4z (hK10 _ _ (exR (x0x rfl (x6x ⟨.inr rfl, ?_⟩))))
   refine y6y rfl ?_ rfl
   exact kT ⟨hL, fun v hv => by obtain ⟨i, hi⟩ := List.getElem?_of_mem hv; exact hall i v hi⟩
  obtain ⟨v, hv⟩ := gE l i
  refine x7x (hK11 _ _ (x2x fun K13 hK13 => ?_))
  refine y0y (exD (x1x 2 rfl rfl (y8y rfl rfl q1q rfl q5q rfl hv (v9v rfl q5q rfl (x9x rfl rfl rfl (w5w ..) (x9x rfl rfl rfl (u8u ..) (a1k rfl ⟨by kernel_rfl, y2y rfl ?_ ?_⟩)))))))<;>intro o<;>try simp at o
  ·have hb : 0 ≤ v ∧ v ≤ 9999 := by omega
   refine x7x ?_
   refine hK13 _ _ ?_
   refine exG ?_
   refine x4x rfl ?_
   refine z5z (b := 1) rfl rfl (by omega) ?_
   refine x0x rfl ?_
   exact ⟨i + 1, ⟨⟨by omega, a0u h2 hv hb⟩, by omega⟩, [], (y3y 3 rfl Cov.nil), (y3y 0 rfl Cov.nil), HE.nil, HE.nil, rfl⟩
  have hX2 : ¬ (0 ≤ v ∧ v ≤ 9999) := by omega
  refine exR (x0x rfl (x6x ⟨.inr rfl, ?_⟩))
  refine y6y rfl ?_ rfl
  exact kF (fun h => hX2 (h.2 v (List.mem_of_getElem? hv)))
 refine x4x rfl (z1z rfl rfl (z2z rfl q1q rfl (x1x 2 rfl rfl (x8x rfl ?_ ?_))))<;>intro o<;>try simp at o
 ·have hX : ¬ (l.length = 0 ∨ l.length = 3) := by (rintro (h | h); exact absurd (List.length_eq_zero_iff.1 h) ‹_›; omega)
  refine exR (x0x rfl (x6x ⟨.inr rfl, ?_⟩))
  refine y6y rfl ?_ rfl
  exact kF (fun h => hX h.1)
 have hL : l.length = 0 ∨ l.length = 3 := by omega
 refine x7x (hK1 _ _ (x2x fun K4 hK4 => ?_))
 refine exR (x0x rfl (y0y ?_))
 refine z3z (ι := Nat) (fun i γ1 => [(3, pI (i : Int))]) (fun i γ1 => []) (fun i => i ≤ l.length ∧ c8y l (fun _ v => 0 ≤ v ∧ v ≤ 9999) i) (fun i => l.length - i) (y3y 0 rfl Cov.nil) HE.nil 0 ⟨by omega, a2l⟩ [] cv hv rfl fun i γ1 hi => ?_
 obtain ⟨h1, h2⟩ := hi
 refine x2x fun K5 hK5 => ?_
 refine exA 2 rfl rfl (z2z rfl q1q rfl (v1v rfl rfl rfl (y2y rfl ?_ ?_)))<;>intro o<;>try simp at o
 ·have hall := a4b h2 (by omega)
  refine z4z (hK4 _ _ (exR (x0x rfl (x6x ⟨.inr rfl, ?_⟩))))
  refine y6y rfl ?_ rfl
  exact kT ⟨hL, fun v hv => by obtain ⟨i, hi⟩ := List.getElem?_of_mem hv; exact hall i v hi⟩
 obtain ⟨v, hv⟩ := gE l i
 refine x7x (hK5 _ _ (x2x fun K7 hK7 => ?_))
 refine y0y (exD (x1x 2 rfl rfl (y8y rfl rfl q1q rfl q5q rfl hv (v9v rfl q5q rfl (x9x rfl rfl rfl (w5w ..) (x9x rfl rfl rfl (u8u ..) (a1k rfl ⟨by kernel_rfl, y2y rfl ?_ ?_⟩)))))))<;>intro o<;>try simp at o
 ·have hb : 0 ≤ v ∧ v ≤ 9999 := by omega
  refine x7x ?_
  refine hK7 _ _ ?_
  refine exG ?_
  refine x4x rfl ?_
  refine z5z (b := 1) rfl rfl (by omega) ?_
  refine x0x rfl ?_
  exact ⟨i + 1, ⟨⟨by omega, a0u h2 hv hb⟩, by omega⟩, [], (y3y 3 rfl Cov.nil), (y3y 0 rfl Cov.nil), HE.nil, HE.nil, rfl⟩
 have hX2 : ¬ (0 ≤ v ∧ v ≤ 9999) := by omega
 refine exR (x0x rfl (x6x ⟨.inr rfl, ?_⟩))
 refine y6y rfl ?_ rfl
 exact kF (fun h => hX2 (h.2 v (List.mem_of_getElem? hv)))
theorem b2g (c : Bool) (w : Wo) : a1o Tryz.prog 182 [.agg (q2q c w)] (.pv (.bool (decide (a4r w)))) := by
 refine pX Tryz.f182 [.pv (.bool (decide (a4r w)))] 1 ?_
 refine exR (z7z (id := 0) rfl rfl rfl (x0x rfl (exD (x1x 2 rfl rfl (x9x rfl rfl rfl (u8u ..) (x4x rfl (z6z rfl rfl ?_ ?_)))))))<;>intro o<;>try simp at o
 ·have hX : ¬ a6d w := by unfold a6d; omega
  refine x1x 53 rfl rfl ⟨by kernel_rfl, x6x ⟨.inr rfl, ?_⟩⟩
  refine y6y rfl ?_ rfl
  exact kF (fun h => hX h.1)
 refine x1x 2 rfl rfl (z1z rfl rfl (x9x rfl rfl rfl (u8u ..) (x1x 2 rfl rfl (z6z rfl rfl ?_ ?_))))<;>intro o<;>try simp at o
 ·have hX : ¬ a6d w := by unfold a6d; omega
  refine x1x 48 rfl rfl ⟨by kernel_rfl, x6x ⟨.inr rfl, ?_⟩⟩
  refine y6y rfl ?_ rfl
  exact kF (fun h => hX h.1)
 refine x1x 2 rfl rfl (z1z rfl rfl (x9x rfl rfl rfl (u8u ..) (x1x 2 rfl rfl (z6z rfl rfl ?_ ?_))))<;>intro o<;>try simp at o
 ·have hX : ¬ a6d w := by unfold a6d; omega
  refine x1x 43 rfl rfl ⟨by kernel_rfl, x6x ⟨.inr rfl, ?_⟩⟩
  refine y6y rfl ?_ rfl
  exact kF (fun h => hX h.1)
 refine x1x 2 rfl rfl (z1z rfl rfl (x9x rfl rfl rfl (w5w ..) (z1z rfl rfl (x9x rfl rfl rfl (u8u ..) (x1x 2 rfl rfl (z6z rfl rfl ?_ ?_))))))<;>intro o<;>try simp at o
 ·have hX : ¬ a6d w := by unfold a6d; omega
  refine x1x 37 rfl rfl ⟨by kernel_rfl, x6x ⟨.inr rfl, ?_⟩⟩
  refine y6y rfl ?_ rfl
  exact kF (fun h => hX h.1)
 refine x1x 2 rfl rfl (z1z rfl rfl (x9x rfl rfl rfl (w5w ..) (z1z rfl rfl (x9x rfl rfl rfl (u8u ..) (x1x 2 rfl rfl (z6z rfl rfl ?_ ?_))))))<;>intro o<;>try simp at o
 ·have hX : ¬ a6d w := by unfold a6d; omega
  refine x1x 31 rfl rfl ⟨by kernel_rfl, x6x ⟨.inr rfl, ?_⟩⟩
  refine y6y rfl ?_ rfl
  exact kF (fun h => hX h.1)
 refine x1x 2 rfl rfl (z1z rfl rfl (x9x rfl rfl rfl (w5w ..) (z1z rfl rfl (x9x rfl rfl rfl (u8u ..) (x1x 2 rfl rfl (z6z rfl rfl ?_ ?_))))))<;>intro o<;>try simp at o
 ·have hX : ¬ a6d w := by unfold a6d; omega
  refine x1x 25 rfl rfl ⟨by kernel_rfl, x6x ⟨.inr rfl, ?_⟩⟩
  refine y6y rfl ?_ rfl
  exact kF (fun h => hX h.1)
 refine x1x 2 rfl rfl (z1z rfl rfl (x9x rfl rfl rfl (u8u ..) (x1x 2 rfl rfl (z6z rfl rfl ?_ ?_))))<;>intro o<;>try simp at o
 ·have hX : ¬ a6d w := by unfold a6d; omega
  refine x1x 20 rfl rfl ⟨by kernel_rfl, x6x ⟨.inr rfl, ?_⟩⟩
  refine y6y rfl ?_ rfl
  exact kF (fun h => hX h.1)
 have hN : a6d w := by unfold a6d; omega
 refine x1x 2 rfl rfl (z1z rfl rfl (x9x rfl rfl rfl (b5p ..) (x1x 2 rfl rfl (z6z rfl rfl ?_ ?_))))<;>intro hg8<;>try simp at hg8
 ·have hX1 : ¬ c4l w.incs := hg8
  refine x1x 15 rfl rfl ⟨by kernel_rfl, x6x ⟨.inr rfl, ?_⟩⟩
  refine y6y rfl ?_ rfl
  exact kF (fun h => hX1 h.2.1)
 have hI : c4l w.incs := hg8
 refine x1x 2 rfl rfl (z1z rfl rfl (x9x rfl rfl rfl (b5p ..) (x1x 2 rfl rfl (z6z rfl rfl ?_ ?_))))<;>intro hg9<;>try simp at hg9
 ·have hX2 : ¬ c4l w.versions := hg9
  refine x1x 10 rfl rfl ⟨by kernel_rfl, x6x ⟨.inr rfl, ?_⟩⟩
  refine y6y rfl ?_ rfl
  exact kF (fun h => hX2 h.2.2.1)
 have hV : c4l w.versions := hg9
 refine x1x 2 rfl rfl (z1z rfl rfl (x9x rfl rfl rfl (a4o ..) (z1z rfl rfl (x9x rfl rfl rfl (a4j ..) (x1x 2 rfl rfl (z6z rfl rfl ?_ ?_))))))<;>intro hg10<;>try simp at hg10
 ·have hX3 : ¬ a8b okE a3m w.events 100 = true := by simpa using hg10
  refine x1x 4 rfl rfl ⟨by kernel_rfl, x6x ⟨.inr rfl, ?_⟩⟩
  refine y6y rfl ?_ rfl
  exact kF (fun h => hX3 h.2.2.2.1)
 have hE : a8b okE a3m w.events 100 = true := hg10
 refine x1x 2 rfl rfl (z1z rfl rfl (x9x rfl rfl rfl (a8e ..) (x1x 2 rfl rfl ⟨by kernel_rfl, x6x ⟨.inr rfl, ?_⟩⟩)))
 refine y6y rfl ?_ rfl
 exact congrArg (fun b : Bool => [AV.pv (.bool b)]) (Bool.eq_iff_iff.2 ⟨fun h => decide_eq_true ⟨hN, hI, hV, hE, h⟩, fun h => (of_decide_eq_true h).2.2.2.2⟩)
theorem a5e (c : Bool) (w : Wo) (hb : wob w) : a1o Tryz.prog 331 [.agg (q2q c w)] (.agg (q2q true w)) := by
 refine pX Tryz.f331 [.agg (q2q true w)] 10 ?_
 obtain ⟨b1, b2, b3, b4⟩ := hb
 refine exR (z7z (id := 0) rfl rfl rfl (y7y (id := 1) v7v b0r rfl (exR (z8z (id := 2) q1q rfl q5q rfl (x1x 2 rfl rfl ?_)))))
 refine a2o s3s (zs := (w.incs).map a6c) rfl rfl q1q rfl q5q rfl rfl rfl (w3w (fun _ => rfl) _) rfl (by (simp only [a0w, a0q, a0v, a0x, a1t, a3w, T3]; omega)) (Le.ow_map _ (fun _ => rfl) (fun _ => rfl)) ?_
 refine y1y rfl v7v rfl rfl q1q rfl rfl (y9y rfl rfl q1q rfl rfl rfl rfl rfl (by simp only [a0y]; rfl) ?_)
 refine exR (z8z (id := 4) q1q rfl q5q rfl (x1x 2 rfl rfl ?_))
 refine a2o s3s (zs := (w.versions).map a6c) rfl rfl q1q rfl q5q rfl rfl rfl (w3w (fun _ => rfl) _) rfl (by (simp only [a0w, a0q, a0v, a0x, a1t, a3w, T3]; omega)) (Le.ow_map _ (fun _ => rfl) (fun _ => rfl)) ?_
 refine y1y rfl v7v rfl rfl q1q rfl rfl (y9y rfl rfl q1q rfl rfl rfl rfl rfl (by simp only [a0y]; rfl) ?_)
 refine exR (z8z (id := 6) u9u rfl u0u rfl (x1x 2 rfl rfl ?_))
 refine a2o s3s (zs := (w.events).map v4v) rfl rfl u9u rfl u0u rfl rfl rfl (w3w (fun _ => rfl) _) rfl (by (simp only [a0w, a0q, a0v, a0x, a1t, a3w, T56]; omega)) (Le.ow_map _ (fun _ => rfl) (fun _ => rfl)) ?_
 refine y1y rfl v7v rfl rfl u9u rfl rfl (y9y rfl rfl u9u rfl rfl rfl rfl rfl (by simp only [a0y]; rfl) ?_)
 refine exR (z8z (id := 8) q8q rfl w8w rfl (x1x 2 rfl rfl ?_))
 refine a2o s3s (zs := (w.outs).map a0c) rfl rfl q8q rfl w8w rfl rfl rfl (w3w (fun _ => rfl) _) rfl (by (simp only [a0w, a0q, a0v, a0x, a1t, a3w, T141]; omega)) (Le.ow_map _ (fun _ => rfl) (fun _ => rfl)) ?_
 refine y1y rfl v7v rfl rfl q8q rfl rfl (y9y rfl rfl q8q rfl rfl rfl rfl rfl (by simp only [a0y]; rfl) ?_)
 refine exR (x5x rfl v7v rfl rfl rfl (x3x rfl rfl v7v rfl rfl rfl rfl (x6x ⟨.inr rfl, ?_⟩)))
 exact a9v rfl rfl rfl rfl
theorem b0d (c : Bool) (l : List Wo) (k : Int) : a1o Tryz.prog 333 [r1r c l, .pv (.int .i64 k)] (.pv (.bool (kb (b2w l k ∧ (k = 3 → ∀ w ∈ l, a9g w))))) := by
 refine pX Tryz.f333 [.pv (.bool (kb (b2w l k ∧ (k = 3 → ∀ w ∈ l, a9g w))))] 0 ?_
 refine p2p 0 rfl fun hlen => ?_
 refine exR (x0x rfl (x2x fun K1 hK1 => ?_))
 refine exR (x0x rfl (y0y ?_))
 refine z3z (ι := Nat) (fun i γ1 => [(5, pI (i : Int))]) (fun i γ1 => []) (fun i => i ≤ l.length ∧ c8y l (fun j w => a4r w ∧ w.kind = k ∧ (∀ p, 0 < j → l[j - 1]? = some p → p.from' < w.from') ∧ (k = 3 → a9g w)) i) (fun i => l.length - i) (cK [0, 1] rfl) HE.nil 0 ⟨by omega, a2l⟩ [] cv hv rfl fun i γ1 hi => ?_
 obtain ⟨h1, h2⟩ := hi
 refine x2x fun K2 hK2 => ?_
 refine exA 2 rfl rfl (z2z rfl v8v rfl (v1v rfl rfl rfl (y2y rfl ?_ ?_)))<;>intro o<;>try simp at o
 ·have hall := a4b h2 (by omega)
  refine z4z (hK1 _ _ (exR (x0x rfl (x6x ⟨.inr rfl, ?_⟩))))
  refine y6y rfl ?_ rfl
  exact congrArg (fun b : Bool => [AV.pv (.bool b)]) (d7y ⟨fun j w hw => ⟨(hall j w hw).1, (hall j w hw).2.1, (hall j w hw).2.2.1⟩, fun e w hw => by obtain ⟨j, hj⟩ := List.getElem?_of_mem hw; exact (hall j w hj).2.2.2 e⟩)
 obtain ⟨w, hw⟩ := gE l i
 refine x7x (hK2 _ _ (x2x fun K4 hK4 => ?_))
 refine y0y (x2x fun K5 hK5 => ?_)
 refine exD (x1x 2 rfl rfl (y8y rfl rfl v8v rfl v7v rfl hw ?_))
 refine v9v (out := .agg (q2q c w)) rfl v7v rfl ?_
 refine x9x rfl rfl rfl (b2g ..) (x1x 2 rfl rfl (z6z rfl rfl ?_ ?_))<;>intro hg6<;>try simp at hg6
 ·have hX : ¬ a4r w := hg6
  refine x1x 25 rfl rfl ⟨by kernel_rfl, x8x rfl (fun hc22 => ?_) (fun hc22 => ?_)⟩
  rotate_left
  ·simp at hc22
  try simp at hc22
  try have hXo : ¬ p.from' < w.from' := by omega
  refine exR (x0x rfl (x6x ⟨.inr rfl, ?_⟩))
  refine y6y rfl ?_ rfl
  exact congrArg (fun b : Bool => [AV.pv (.bool b)]) (a5s (fun h => hX (h.1 i w hw).1))
 have hW : a4r w := hg6
 refine x1x 2 rfl rfl (z1z rfl rfl (y8y rfl rfl v8v rfl v7v rfl hw (x1x 6 rfl rfl (z6z rfl rfl ?_ ?_))))<;>intro hg7<;>try simp at hg7
 ·try have hXk : ¬ w.kind = k := hg7
  refine x1x 16 rfl rfl ⟨by kernel_rfl, x8x rfl (fun hc21 => ?_) (fun hc21 => ?_)⟩
  rotate_left
  ·simp at hc21
  try simp at hc21
  try have hXo : ¬ p.from' < w.from' := by omega
  refine exR (x0x rfl (x6x ⟨.inr rfl, ?_⟩))
  refine y6y rfl ?_ rfl
  exact congrArg (fun b : Bool => [AV.pv (.bool b)]) (a5s (fun h => hXk (h.1 i w hw).2.1))
 have hk : w.kind = k := hg7
 refine x1x 3 rfl rfl (z6z rfl rfl ?_ ?_)<;>intro o<;>try simp at o
 ·have hi0 : i = 0 := by omega
  have hO : ∀ p, 0 < i → l[i - 1]? = some p → p.from' < w.from' := fun p h => by omega
  refine x1x 13 rfl rfl ⟨by kernel_rfl, x8x rfl (fun hc15 => ?_) (fun hc15 => ?_)⟩
  ·simp at hc15
  try simp at hc15
  try have hO : ∀ p, 0 < i → l[i - 1]? = some p → p.from' < w.from' := fun p2 _ h => by rw [hp] at h; cases h; omega
  refine x7x (hK5 _ _ (exA 3 rfl rfl (z6z rfl rfl ?_ ?_)))<;>intro o<;>try simp at o
  ·refine x1x 16 rfl rfl (x8x rfl (fun hc20 => ?_) (fun hc20 => ?_))
   ·simp at hc20
   try simp at hc20
   have hF : k = 3 → a9g w := by intro _; exact ⟨by omega, by omega⟩
   refine x7x (hK4 _ _ (exG (x4x rfl (z5z (b := 1) rfl rfl (by omega) (x0x rfl ?_)))))
   exact ⟨i + 1, ⟨⟨by omega, a0u h2 hw ⟨hW, hk, hO, hF⟩⟩, by omega⟩, [], cv, cv, hv, hv, rfl⟩
  refine x1x 2 rfl rfl (z1z rfl rfl (y8y rfl rfl v8v rfl v7v rfl hw (x1x 2 rfl rfl (z1z rfl rfl (z2z rfl q1q rfl (x1x 2 rfl rfl (z6z rfl rfl ?_ ?_)))))))<;>intro o<;>try simp at o
  ·refine x1x 8 rfl rfl (x8x rfl (fun hc19 => ?_) (fun hc19 => ?_))
   rotate_left
   ·simp at hc19
   try simp at hc19
   have hX5 : ¬ (k = 3 → a9g w) := fun h => by have := h (by omega); unfold a9g at this; omega
   refine exR (x0x rfl (x6x ⟨.inr rfl, ?_⟩))
   refine y6y rfl ?_ rfl
   exact congrArg (fun b : Bool => [AV.pv (.bool b)]) (a5s (fun h => hX5 (fun e => h.2 e w (List.mem_of_getElem? hw))))
  refine x1x 2 rfl rfl (z1z rfl rfl (y8y rfl rfl v8v rfl v7v rfl hw (x1x 2 rfl rfl (z1z rfl rfl (z2z rfl q1q rfl (x1x 3 rfl rfl (y2y rfl ?_ ?_)))))))<;>intro o<;>try simp at o
  ·have hF : k = 3 → a9g w := by intro _; exact ⟨by omega, by omega⟩
   refine x7x (hK4 _ _ (exG (x4x rfl (z5z (b := 1) rfl rfl (by omega) (x0x rfl ?_)))))
   exact ⟨i + 1, ⟨⟨by omega, a0u h2 hw ⟨hW, hk, hO, hF⟩⟩, by omega⟩, [], cv, cv, hv, hv, rfl⟩
  have hX5 : ¬ (k = 3 → a9g w) := fun h => by have := h (by omega); unfold a9g at this; omega
  refine exR (x0x rfl (x6x ⟨.inr rfl, ?_⟩))
  refine y6y rfl ?_ rfl
  exact congrArg (fun b : Bool => [AV.pv (.bool b)]) (a5s (fun h => hX5 (fun e => h.2 e w (List.mem_of_getElem? hw))))
 obtain ⟨p, hp⟩ := gE l (i - 1)
 refine x1x 2 rfl rfl (z1z rfl rfl (a0s (b := 1) rfl rfl (by omega) (by omega) (z1z rfl rfl (y8y rfl rfl v8v rfl v7v rfl hp (x1x 4 rfl rfl (z1z rfl rfl (y8y rfl rfl v8v rfl v7v rfl hw (x1x 5 rfl rfl ⟨by kernel_rfl, x8x rfl ?_ ?_⟩))))))))<;>intro o<;>try simp at o
 ·try have hXo : ¬ p.from' < w.from' := by omega
  refine exR (x0x rfl (x6x ⟨.inr rfl, ?_⟩))
  refine y6y rfl ?_ rfl
  exact congrArg (fun b : Bool => [AV.pv (.bool b)]) (a5s (fun h => hXo ((h.1 i w hw).2.2 p (by omega) hp)))
 try have hO : ∀ p, 0 < i → l[i - 1]? = some p → p.from' < w.from' := fun p2 _ h => by rw [hp] at h; cases h; omega
 refine x7x (hK5 _ _ (exA 3 rfl rfl (z6z rfl rfl ?_ ?_)))<;>intro o<;>try simp at o
 ·refine x1x 16 rfl rfl (x8x rfl (fun hc14 => ?_) (fun hc14 => ?_))
  ·simp at hc14
  try simp at hc14
  have hF : k = 3 → a9g w := by intro _; exact ⟨by omega, by omega⟩
  refine x7x (hK4 _ _ (exG (x4x rfl (z5z (b := 1) rfl rfl (by omega) (x0x rfl ?_)))))
  exact ⟨i + 1, ⟨⟨by omega, a0u h2 hw ⟨hW, hk, hO, hF⟩⟩, by omega⟩, [], cv, cv, hv, hv, rfl⟩
 refine x1x 2 rfl rfl (z1z rfl rfl (y8y rfl rfl v8v rfl v7v rfl hw (x1x 2 rfl rfl (z1z rfl rfl (z2z rfl q1q rfl (x1x 2 rfl rfl (z6z rfl rfl ?_ ?_)))))))<;>intro o<;>try simp at o
 ·refine x1x 8 rfl rfl (x8x rfl (fun hc13 => ?_) (fun hc13 => ?_))
  rotate_left
  ·simp at hc13
  try simp at hc13
  have hX5 : ¬ (k = 3 → a9g w) := fun h => by have := h (by omega); unfold a9g at this; omega
  refine exR (x0x rfl (x6x ⟨.inr rfl, ?_⟩))
  refine y6y rfl ?_ rfl
  exact congrArg (fun b : Bool => [AV.pv (.bool b)]) (a5s (fun h => hX5 (fun e => h.2 e w (List.mem_of_getElem? hw))))
 refine x1x 2 rfl rfl (z1z rfl rfl (y8y rfl rfl v8v rfl v7v rfl hw (x1x 2 rfl rfl (z1z rfl rfl (z2z rfl q1q rfl (x1x 3 rfl rfl (y2y rfl ?_ ?_)))))))<;>intro o<;>try simp at o
 ·have hF : k = 3 → a9g w := by intro _; exact ⟨by omega, by omega⟩
  refine x7x (hK4 _ _ (exG (x4x rfl (z5z (b := 1) rfl rfl (by omega) (x0x rfl ?_)))))
  exact ⟨i + 1, ⟨⟨by omega, a0u h2 hw ⟨hW, hk, hO, hF⟩⟩, by omega⟩, [], cv, cv, hv, hv, rfl⟩
 have hX5 : ¬ (k = 3 → a9g w) := fun h => by have := h (by omega); unfold a9g at this; omega
 refine exR (x0x rfl (x6x ⟨.inr rfl, ?_⟩))
 refine y6y rfl ?_ rfl
 exact congrArg (fun b : Bool => [AV.pv (.bool b)]) (a5s (fun h => hX5 (fun e => h.2 e w (List.mem_of_getElem? hw))))
theorem a9q (c : Bool) (h : Hb) : a1o Tryz.prog 323 [.agg (a9h c h)] (.pv (.bool (kb (a1f h)))) := by
 refine pX Tryz.f323 [.pv (.bool (kb (a1f h)))] 1 ?_
 refine exR (z7z (id := 0) rfl rfl rfl (x0x rfl (exD (x1x 2 rfl rfl (x9x rfl rfl rfl (w5w ..) (x9x rfl rfl rfl (u8u ..) (x4x rfl (z6z rfl rfl ?_ ?_))))))))<;>intro o<;>try simp at o
 ·have hX : ¬ (0 ≤ h.round ∧ h.round ≤ 9999) := by omega
  refine x1x 14 rfl rfl ⟨by kernel_rfl, x6x ⟨.inr rfl, ?_⟩⟩
  refine y6y rfl ?_ rfl
  exact congrArg (fun b : Bool => [AV.pv (.bool b)]) (a5s (fun h => hX h.1))
 have hR : 0 ≤ h.round ∧ h.round ≤ 9999 := by omega
 refine x1x 2 rfl rfl (z1z rfl rfl (x9x rfl rfl rfl (b0d ..) (x1x 2 rfl rfl (z6z rfl rfl ?_ ?_))))<;>intro hg2<;>try simp at hg2
 ·have hX1 : ¬ (b2w h.ones 3 ∧ ((3 : Int) = 3 → ∀ w ∈ h.ones, a9g w)) := a0z (by simpa using hg2)
  refine x1x 9 rfl rfl ⟨by kernel_rfl, x6x ⟨.inr rfl, ?_⟩⟩
  refine y6y rfl ?_ rfl
  exact congrArg (fun b : Bool => [AV.pv (.bool b)]) (a5s (fun h => hX1 ⟨h.2.1, fun _ => h.2.2.2.2⟩))
 have h1 : b2w h.ones 3 ∧ ((3 : Int) = 3 → ∀ w ∈ h.ones, a9g w) := a1x.1 (by simpa using hg2)
 refine x1x 2 rfl rfl (z1z rfl rfl (x9x rfl rfl rfl (b0d ..) (x1x 2 rfl rfl (z6z rfl rfl ?_ ?_))))<;>intro hg3<;>try simp at hg3
 ·have hX2 : ¬ (b2w h.twos 5 ∧ ((5 : Int) = 3 → ∀ w ∈ h.twos, a9g w)) := a0z (by simpa using hg3)
  refine x1x 4 rfl rfl ⟨by kernel_rfl, x6x ⟨.inr rfl, ?_⟩⟩
  refine y6y rfl ?_ rfl
  exact congrArg (fun b : Bool => [AV.pv (.bool b)]) (a5s (fun h => hX2 ⟨h.2.2.1, fun e => by omega⟩))
 have h2 : b2w h.twos 5 ∧ ((5 : Int) = 3 → ∀ w ∈ h.twos, a9g w) := a1x.1 (by simpa using hg3)
 refine x1x 2 rfl rfl (z1z rfl rfl (x9x rfl rfl rfl (b0d ..) (x1x 2 rfl rfl ⟨by kernel_rfl, x6x ⟨.inr rfl, ?_⟩⟩)))
 refine y6y rfl ?_ rfl
 exact congrArg (fun b : Bool => [AV.pv (.bool b)]) (congrArg kb (propext ⟨fun h => ⟨hR, h1.1, h2.1, h.1, h1.2 rfl⟩, fun h => ⟨h.2.2.2.1, fun e => by omega⟩⟩))
end
section
theorem a8w (c : Bool) (l : List Wo) (hb : ∀ w ∈ l, wob w) (hl : l.length ≤ 1000000) : a1o Tryz.prog 334 [r1r c l] (r1r true l) := by
 refine pX Tryz.f334 [r1r true l] 3 ?_
 refine exR (x0x rfl (exR (z8z (id := 0) v8v rfl v7v rfl (x0x rfl (x2x fun K1 hK1 => ?_)))))
 refine exR (x0x rfl (y0y ?_))
 refine z3z (ι := Nat) (fun i γ1 => [(3, .ref 0 (γ1 0)), (4, pI (i : Int))]) (fun i γ1 => [(0, ((γ1 0), .row 79 11 ((l.take i).map (q2q true)))), (1, ((γ1 1), .dead)), (2, ((γ1 2), .dead))]) (fun i => i ≤ l.length) (fun i => l.length - i) (y3y 0 rfl Cov.nil) HE.nil 0 (by omega) [_, _, _] cv (HE.row rfl (by rw [List.take_zero]; rfl) (HE.kill rfl (HE.kill rfl HE.nil))) rfl fun i γ1 hi => ?_
 refine x2x fun K2 hK2 => ?_
 refine exA 2 rfl rfl (z2z rfl v8v rfl (v1v rfl rfl rfl (y2y rfl ?_ ?_)))<;>intro u<;>try simp at u
 ·obtain rfl : i = l.length := by omega
  refine z4z (hK1 _ _ (exA 2 rfl rfl (x6x ⟨.inr rfl, ?_⟩)))
  refine a5h rfl rfl (fun _ => rfl) ?_
  rw [List.take_length]
 obtain ⟨w, hw⟩ := gE l i
 have hwb := hb w (List.mem_of_getElem? hw)
 refine x7x (hK2 _ _ (x2x fun K4 hK4 => ?_))
 refine y0y (exG (x1x 3 rfl rfl (y8y rfl rfl v8v rfl v7v rfl hw ?_)))
 refine v9v (out := .agg (q2q c w)) rfl v7v rfl ?_
 refine x9x rfl rfl rfl (a5e c w hwb) (u5u (id := 1) v8v rfl v7v rfl rfl rfl rfl rfl rfl ?_)
 refine u6u (zs := (l.take i ++ [w]).map (q2q true)) rfl rfl v8v rfl v7v rfl rfl rfl rfl (by rfl) (w7w _ _ _) (by (simp only [a0w, a0q, a0v, a0x, a1t, a3w, T79]; omega)) ?_
 refine x0x rfl (hK4 _ _ (exG (x4x rfl (p7p rfl rfl rfl (x0x rfl ?_)))))
 exact ⟨i + 1, ⟨by omega, by omega⟩, [_, _, _], (y3y 3 rfl (Cov.cons' (t := 4) rfl (by rw [u2u (by omega) (by omega)]; rfl) Cov.nil)), cv, (HE.row rfl (by rw [w0w hw]) (HE.kill rfl (HE.kill rfl HE.nil))), hv, rfl⟩
theorem a3y (c : Bool) (h : Hb) (hk : a1f h) : a1o Tryz.prog 324 [.agg (a9h c h)] (.agg (a9h true h)) := by
 refine pX Tryz.f324 [.agg (a9h true h)] 2 ?_
 have e1 := b6p hk.2.1
 have e2 := b6p hk.2.2.1
 have e3 := b6p hk.2.2.2.1
 refine exR (z7z (id := 0) rfl rfl rfl (y7y (id := 1) r4r b5y rfl (exD (x1x 4 rfl rfl (x9x rfl rfl rfl (a8w c h.ones (d3l hk.2.1) (by omega)) ?_)))))
 refine x1x 2 rfl rfl (x9x rfl rfl rfl (a8w c h.twos (d3l hk.2.2.1) (by omega)) ?_)
 refine x1x 2 rfl rfl (x9x rfl rfl rfl (a8w c h.outs (d3l hk.2.2.2.1) (by omega)) ?_)
 refine rlB r4r b5y ?_
 refine x3x rfl rfl r4r rfl rfl rfl rfl ⟨by kernel_rfl, x6x ⟨.inr rfl, ?_⟩⟩
 exact a9v rfl rfl rfl rfl
theorem a8f (l : List Wo) (w : Wo) (ag : Bool) (hl : l.length ≤ 1000000) : a1o Tryz.prog 330 [r1r true l, .agg (q2q true w), .pv (.bool (ag))] (r1r true (a7m w ag l false)) := by
 refine pX Tryz.f330 [r1r true (a7m w ag l false)] 10 ?_
 refine exR (z7z (id := 0) rfl rfl rfl (x0x rfl (exR (z8z (id := 1) v8v rfl v7v rfl (x0x rfl (exR (x0x rfl (x2x fun K1 hK1 => ?_))))))))
 refine exR (x0x rfl (y0y ?_))
 refine z3z (ι := List Wo × Bool × Nat) (fun p γ1 => [(7, .ref 1 (γ1 1)), (8, .pv (.bool (p.2.1))), (9, pI (p.2.2 : Int))]) (fun p γ1 => [(1, ((γ1 1), .row 79 11 ((p.1).map (q2q true)))), (2, ((γ1 2), .dead)), (3, ((γ1 3), .dead)), (4, ((γ1 4), .dead)), (5, ((γ1 5), .dead)), (6, ((γ1 6), .dead)), (7, ((γ1 7), .dead))]) (fun p => p.2.2 ≤ l.length ∧ p.1.length ≤ 2 * p.2.2 ∧ p.1 ++ a7m w ag (l.drop p.2.2) p.2.1 = a7m w ag l false) (fun p => l.length - p.2.2) (cK [0, 2, 4] rfl) (hK [0, 8, 9] rfl) ([], false, 0) ⟨by show 0 ≤ _; omega, by show 0 ≤ _; omega, rfl⟩ [0, _, _, _, _, _, _, _] cv hv rfl fun p γ1 hi => ?_
 obtain ⟨o, d, i⟩ := p
 obtain ⟨h1, h2, h3⟩ := hi
 dsimp only at h1 h2 h3 ⊢
 refine x2x fun K2 hK2 => ?_
 refine exA 2 rfl rfl (z2z rfl v8v rfl (v1v rfl rfl rfl (y2y rfl ?_ ?_)))<;>intro u<;>try simp at u
 ·obtain rfl : i = l.length := by omega
  rw [List.drop_length] at h3
  refine z4z (hK1 _ _ (x2x fun K14 hK14 => ?_))
  refine exA 2 rfl rfl (y2y rfl ?_ ?_)<;>intro hc15<;>try simp at hc15
  ·obtain rfl : d = true := hc15
   refine x7x (hK14 _ _ (exA 2 rfl rfl (x6x ⟨.inr rfl, ?_⟩)))
   refine a5h rfl rfl (fun _ => rfl) ?_
   (rw [← h3]; exact (List.append_nil _).symm)
  obtain rfl : d = false := hc15
  refine exG (x1x 2 rfl rfl (u5u (id := 8) v8v rfl v7v rfl rfl rfl rfl rfl rfl ?_))
  refine u6u (zs := (o ++ [w]).map (q2q true)) rfl rfl v8v rfl v7v rfl rfl rfl rfl (by rfl) (w7w _ _ _) (by (simp only [a0w, a0q, a0v, a0x, a1t, a3w, T79]; omega)) ?_
  refine x0x rfl (hK14 _ _ (exA 2 rfl rfl (x6x ⟨.inr rfl, ?_⟩)))
  refine a5h rfl rfl (fun _ => rfl) ?_
  exact h3
 obtain ⟨x, hx⟩ := gE l i
 refine x7x (hK2 _ _ (x2x fun K4 hK4 => ?_))
 refine y0y (x2x fun K5 hK5 => ?_)
 refine exD (x1x 2 rfl rfl (y8y rfl rfl v8v rfl v7v rfl hx (x1x 5 rfl rfl ⟨by kernel_rfl, x8x rfl ?_ ?_⟩)))<;>intro hc6<;>try simp at hc6
 ·have hq : x.from' = w.from' := hc6
  refine exR (x0x rfl (exR (x4x rfl (x8x rfl ?_ ?_))))<;>intro hc7<;>try simp at hc7
  ·obtain rfl : ag = true := hc7
   have hN : i + 1 ≤ l.length ∧ (o ++ [w]).length ≤ 2 * (i + 1) ∧ (o ++ [w]) ++ a7m w true (l.drop (i + 1)) true = a7m w true l false := ⟨by omega, by simp only [a0q, a0v, a0x]; omega, b2f h3 (by rw [s2s hx]; exact f3t hq)⟩
   refine exA 2 rfl rfl (u5u (id := 2) v8v rfl v7v rfl rfl rfl rfl rfl rfl ?_)
   refine u6u (zs := (o ++ [w]).map (q2q true)) rfl rfl v8v rfl v7v rfl rfl rfl rfl (by rfl) (w7w _ _ _) (by (simp only [a0w, a0q, a0v, a0x, a1t, a3w, T79]; omega)) ?_
   refine x0x rfl (z4z (hK4 _ _ (exG (x4x rfl (z5z (b := 1) rfl rfl (by omega) (x0x rfl ?_))))))
   exact ⟨(_, _, _), ⟨hN, (by show l.length - (i + 1) < l.length - i; omega)⟩, [0, _, _, _, _, _, _, _], cv, cv, hv, hv, rfl⟩
  obtain rfl : ag = false := hc7
  have hN : i + 1 ≤ l.length ∧ (o ++ [x]).length ≤ 2 * (i + 1) ∧ (o ++ [x]) ++ a7m w false (l.drop (i + 1)) true = a7m w false l false := ⟨by omega, by simp only [a0q, a0v, a0x]; omega, b2f h3 (by rw [s2s hx]; exact f3u hq)⟩
  refine x7x (hK5 _ _ (x2x fun K8 hK8 => ?_))
  refine exD (x1x 12 rfl rfl ⟨by kernel_rfl, x8x rfl (fun hc9 => ?_) (fun hc9 => ?_)⟩)
  ·simp at hc9
  try simp at hc9
  try have hN : i + 1 ≤ l.length ∧ (o ++ [x]).length ≤ 2 * (i + 1) ∧ (o ++ [x]) ++ a7m w ag (l.drop (i + 1)) false = a7m w ag l false := ⟨by omega, by simp only [a0q, a0v, a0x]; omega, b2f h3 (by rw [s2s hx]; exact d5x hq (by rintro ⟨_, h⟩; omega))⟩
  refine x7x (hK8 _ _ (exG (x1x 3 rfl rfl (y8y rfl rfl v8v rfl v7v rfl hx ?_))))
  refine v9v (out := .agg (q2q true x)) rfl v7v rfl ?_
  refine u5u (id := 6) v8v rfl v7v rfl rfl rfl rfl rfl rfl ?_
  refine u6u (zs := (o ++ [x]).map (q2q true)) rfl rfl v8v rfl v7v rfl rfl rfl rfl (by rfl) (w7w _ _ _) (by (simp only [a0w, a0q, a0v, a0x, a1t, a3w, T79]; omega)) ?_
  refine x0x rfl (hK4 _ _ (exG (x4x rfl (z5z (b := 1) rfl rfl (by omega) (x0x rfl ?_)))))
  exact ⟨(_, _, _), ⟨hN, (by show l.length - (i + 1) < l.length - i; omega)⟩, [0, _, _, _, _, _, _, _], cv, cv, hv, hv, rfl⟩
 have hq : ¬ x.from' = w.from' := hc6
 refine x7x (hK5 _ _ (x2x fun K10 hK10 => ?_))
 refine exD (x1x 3 rfl rfl (z6z rfl rfl ?_ ?_))<;>intro hg11<;>try simp at hg11
 ·obtain rfl : d = true := hg11
  have hN : i + 1 ≤ l.length ∧ (o ++ [x]).length ≤ 2 * (i + 1) ∧ (o ++ [x]) ++ a7m w ag (l.drop (i + 1)) true = a7m w ag l false := ⟨by omega, by simp only [a0q, a0v, a0x]; omega, b2f h3 (by rw [s2s hx]; exact d5x hq (by simp))⟩
  refine x1x 8 rfl rfl ⟨by kernel_rfl, x8x rfl (fun hc13 => ?_) (fun hc13 => ?_)⟩
  ·simp at hc13
  try simp at hc13
  try have hN : i + 1 ≤ l.length ∧ (o ++ [x]).length ≤ 2 * (i + 1) ∧ (o ++ [x]) ++ a7m w ag (l.drop (i + 1)) false = a7m w ag l false := ⟨by omega, by simp only [a0q, a0v, a0x]; omega, b2f h3 (by rw [s2s hx]; exact d5x hq (by rintro ⟨_, h⟩; omega))⟩
  refine x7x (hK10 _ _ (exG (x1x 3 rfl rfl (y8y rfl rfl v8v rfl v7v rfl hx ?_))))
  refine v9v (out := .agg (q2q true x)) rfl v7v rfl ?_
  refine u5u (id := 6) v8v rfl v7v rfl rfl rfl rfl rfl rfl ?_
  refine u6u (zs := (o ++ [x]).map (q2q true)) rfl rfl v8v rfl v7v rfl rfl rfl rfl (by rfl) (w7w _ _ _) (by (simp only [a0w, a0q, a0v, a0x, a1t, a3w, T79]; omega)) ?_
  refine x0x rfl (hK4 _ _ (exG (x4x rfl (z5z (b := 1) rfl rfl (by omega) (x0x rfl ?_)))))
  exact ⟨(_, _, _), ⟨hN, (by show l.length - (i + 1) < l.length - i; omega)⟩, [0, _, _, _, _, _, _, _], cv, cv, hv, hv, rfl⟩
 obtain rfl : d = false := hg11
 refine x1x 2 rfl rfl (z1z rfl rfl (y8y rfl rfl v8v rfl v7v rfl hx (x1x 6 rfl rfl ⟨by kernel_rfl, y2y rfl ?_ ?_⟩)))<;>intro u<;>try simp at u
 ·try have hN : i + 1 ≤ l.length ∧ (o ++ [x]).length ≤ 2 * (i + 1) ∧ (o ++ [x]) ++ a7m w ag (l.drop (i + 1)) false = a7m w ag l false := ⟨by omega, by simp only [a0q, a0v, a0x]; omega, b2f h3 (by rw [s2s hx]; exact d5x hq (by rintro ⟨_, h⟩; omega))⟩
  refine x7x (hK10 _ _ (exG (x1x 3 rfl rfl (y8y rfl rfl v8v rfl v7v rfl hx ?_))))
  refine v9v (out := .agg (q2q true x)) rfl v7v rfl ?_
  refine u5u (id := 6) v8v rfl v7v rfl rfl rfl rfl rfl rfl ?_
  refine u6u (zs := (o ++ [x]).map (q2q true)) rfl rfl v8v rfl v7v rfl rfl rfl rfl (by rfl) (w7w _ _ _) (by (simp only [a0w, a0q, a0v, a0x, a1t, a3w, T79]; omega)) ?_
  refine x0x rfl (hK4 _ _ (exG (x4x rfl (z5z (b := 1) rfl rfl (by omega) (x0x rfl ?_)))))
  exact ⟨(_, _, _), ⟨hN, (by show l.length - (i + 1) < l.length - i; omega)⟩, [0, _, _, _, _, _, _, _], cv, cv, hv, hv, rfl⟩
 have hN : i + 1 ≤ l.length ∧ (o ++ [w] ++ [x]).length ≤ 2 * (i + 1) ∧ (o ++ [w] ++ [x]) ++ a7m w ag (l.drop (i + 1)) true = a7m w ag l false := ⟨by omega, by simp only [a0q, a0v, a0x]; omega, by rw [List.append_assoc o]; exact b2f h3 (by rw [s2s hx]; exact f3v hq (by omega))⟩
 refine exA 2 rfl rfl (u5u (id := 4) v8v rfl v7v rfl rfl rfl rfl rfl rfl ?_)
 refine u6u (zs := (o ++ [w]).map (q2q true)) rfl rfl v8v rfl v7v rfl rfl rfl rfl (by rfl) (w7w _ _ _) (by (simp only [a0w, a0q, a0v, a0x, a1t, a3w, T79]; omega)) ?_
 refine x0x rfl (exG (x0x rfl (hK10 _ _ (exG (x1x 3 rfl rfl (y8y rfl rfl v8v rfl v7v rfl hx ?_))))))
 refine v9v (out := .agg (q2q true x)) rfl v7v rfl ?_
 refine u5u (id := 6) v8v rfl v7v rfl rfl rfl rfl rfl rfl ?_
 refine u6u (zs := (o ++ [w] ++ [x]).map (q2q true)) rfl rfl v8v rfl v7v rfl rfl rfl rfl (by rfl) (w7w _ _ _) (by (simp only [a0w, a0q, a0v, a0x, a1t, a3w, T79]; omega)) ?_
 refine x0x rfl (hK4 _ _ (exG (x4x rfl (z5z (b := 1) rfl rfl (by omega) (x0x rfl ?_)))))
 exact ⟨(_, _, _), ⟨hN, (by show l.length - (i + 1) < l.length - i; omega)⟩, [0, _, _, _, _, _, _, _], cv, cv, hv, hv, rfl⟩
theorem b8f (k f t i0 v r g : Int) : a1o Tryz.prog 325 [.agg [pI k, pI f, pI t, pI i0, pI v, pI r, pI g, .pv (.slice none 0 0), .pv (.slice none 0 0), .pv (.slice none 0 0), .pv (.slice none 0 0)]] (r1r true (e3w ⟨k, f, t, i0, v, r, g, [], [], [], []⟩)) := by
 refine pX Tryz.f325 [r1r true (e3w ⟨k, f, t, i0, v, r, g, [], [], [], []⟩)] 4 ?_
 refine exR (z7z (id := 0) rfl rfl rfl (x0x rfl (exR (z8z (id := 1) v8v rfl v7v rfl (x0x rfl (x2x fun K1 hK1 => ?_))))))
 refine exR (x0x rfl (y0y ?_))
 refine z3z (ι := Nat) (fun i γ1 => [(3, .ref 1 (γ1 1)), (4, pI ((i + 1 : Nat) : Int))]) (fun i γ1 => [(1, ((γ1 1), .row 79 11 ((List.range i).map fun (j : Nat) => [pI k, pI f, pI ((j + 1 : Nat) : Int), pI i0, pI v, pI r, pI g, .pv (.slice none 0 0), .pv (.slice none 0 0), .pv (.slice none 0 0), .pv (.slice none 0 0)]))), (0, ((0 + 1), .box 79 [pI k, pI f, pI (if i = 0 then t else ((i : Nat) : Int)), pI i0, pI v, pI r, pI g, .pv (.slice none 0 0), .pv (.slice none 0 0), .pv (.slice none 0 0), .pv (.slice none 0 0)])), (2, ((γ1 2), .dead)), (3, ((γ1 3), .dead))]) (fun i => i ≤ 2) (fun i => 2 - i) (y3y 1 rfl Cov.nil) HE.nil 0 (by omega) [0, _, _, _] cv (HE.row rfl (by rfl) (HE.box rfl (by rfl) (HE.kill rfl (HE.kill rfl HE.nil)))) rfl fun i γ1 hi => ?_
 refine x2x fun K2 hK2 => ?_
 refine exA 2 rfl rfl (y2y rfl ?_ ?_)<;>intro u<;>try simp at u
 ·obtain rfl : i = 2 := by omega
  refine z4z (hK1 _ _ (exA 2 rfl rfl ?_))
  refine c5s (f := fun (j : Nat) => [pI k, pI f, pI ((j + 1 : Nat) : Int), pI i0, pI v, pI r, pI g, .pv (.slice none 0 0), .pv (.slice none 0 0), .pv (.slice none 0 0), .pv (.slice none 0 0)]) (f' := fun (j : Nat) => q2q true ⟨k, f, ((j + 1 : Nat) : Int), i0, v, r, g, [], [], [], []⟩) (l := List.range 2) 1 rfl (fun _ => .same (.same (.same (.same (.same (.same (.same (.le rfl .nil rfl (.le rfl .nil rfl (.le rfl .nil rfl (.le rfl .nil rfl .nil))))))))))) ?_
  refine x6x ⟨.inr rfl, ?_⟩
  exact a5h (l := List.range 2) (l' := List.range 2) (f := fun (j : Nat) => q2q true ⟨k, f, ((j + 1 : Nat) : Int), i0, v, r, g, [], [], [], []⟩) rfl rfl (fun _ => rfl) rfl
 refine x7x (hK2 _ _ (x2x fun K4 hK4 => ?_))
 refine y0y (exA 2 rfl rfl (y9y rfl rfl q5q rfl rfl rfl rfl rfl (by simp only [a0y]; rfl) ?_))
 refine exG (x1x 2 rfl rfl (u5u (id := 2) v8v rfl v7v rfl rfl rfl rfl rfl rfl ?_))
 refine u6u (zs := ((List.range i).map fun (j : Nat) => [pI k, pI f, pI ((j + 1 : Nat) : Int), pI i0, pI v, pI r, pI g, .pv (.slice none 0 0), .pv (.slice none 0 0), .pv (.slice none 0 0), .pv (.slice none 0 0)]) ++ [[pI k, pI f, pI ((i + 1 : Nat) : Int), pI i0, pI v, pI r, pI g, .pv (.slice none 0 0), .pv (.slice none 0 0), .pv (.slice none 0 0), .pv (.slice none 0 0)]]) rfl rfl v8v rfl v7v rfl rfl rfl rfl (by rfl) rfl (by (simp only [a0w, a0q, a0v, a0x, a1t, a3w, T79]; omega)) ?_
 refine x0x rfl (hK4 _ _ (exG (x4x rfl (z5z (b := 1) rfl rfl (by omega) (x0x rfl ?_)))))
 exact ⟨i + 1, ⟨by omega, by omega⟩, [0, _, _, _], cv, cv, (HE.row rfl (by rw [List.range_succ, List.map_append]; rfl) (HE.box rfl (by rw [if_neg (by omega : ¬ i + 1 = 0)] <;> rfl) (HE.kill rfl (HE.kill rfl HE.nil)))), hv, rfl⟩
theorem c3o (k f t i0 v r g : Int) : Meth Tryz.prog 325 1 [] [.agg [pI k, pI f, pI t, pI i0, pI v, pI r, pI g, .pv (.slice none 0 0), .pv (.slice none 0 0), .pv (.slice none 0 0), .pv (.slice none 0 0)]] [(0, (0, .dead))] (.ref 0 0) [(0, (0, .row 79 11 ((e3w ⟨k, f, t, i0, v, r, g, [], [], [], []⟩).map (q2q true))))] := by
 refine mX Tryz.f325 [.ref 0 0] 1 3 fun γ => ?_
 refine exR (z7z (id := 1) rfl rfl rfl (x0x rfl (exR (z8z (id := 0) v8v rfl v7v rfl (x0x rfl (x2x fun K1 hK1 => ?_))))))
 refine exR (x0x rfl (y0y ?_))
 refine z3z (ι := Nat) (fun i γ1 => [(3, .ref 0 (γ1 0)), (4, pI ((i + 1 : Nat) : Int))]) (fun i γ1 => [(0, ((γ1 0), .row 79 11 ((List.range i).map fun (j : Nat) => [pI k, pI f, pI ((j + 1 : Nat) : Int), pI i0, pI v, pI r, pI g, .pv (.slice none 0 0), .pv (.slice none 0 0), .pv (.slice none 0 0), .pv (.slice none 0 0)]))), (1, ((0 + 1), .box 79 [pI k, pI f, pI (if i = 0 then t else ((i : Nat) : Int)), pI i0, pI v, pI r, pI g, .pv (.slice none 0 0), .pv (.slice none 0 0), .pv (.slice none 0 0), .pv (.slice none 0 0)])), (2, ((γ1 2), .dead)), (3, ((γ1 3), .dead))]) (fun i => i ≤ 2) (fun i => 2 - i) (y3y 1 rfl Cov.nil) HE.nil 0 (by omega) [_, 0, _, _] cv (HE.row rfl (by rfl) (HE.box rfl (by rfl) (HE.kill rfl (HE.kill rfl HE.nil)))) rfl fun i γ1 hi => ?_
 refine x2x fun K2 hK2 => ?_
 refine exA 2 rfl rfl (y2y rfl ?_ ?_)<;>intro u<;>try simp at u
 ·obtain rfl : i = 2 := by omega
  refine z4z (hK1 _ _ (exA 2 rfl rfl ?_))
  refine c5s (f := fun (j : Nat) => [pI k, pI f, pI ((j + 1 : Nat) : Int), pI i0, pI v, pI r, pI g, .pv (.slice none 0 0), .pv (.slice none 0 0), .pv (.slice none 0 0), .pv (.slice none 0 0)]) (f' := fun (j : Nat) => q2q true ⟨k, f, ((j + 1 : Nat) : Int), i0, v, r, g, [], [], [], []⟩) (l := List.range 2) 0 rfl (fun _ => .same (.same (.same (.same (.same (.same (.same (.le rfl .nil rfl (.le rfl .nil rfl (.le rfl .nil rfl (.le rfl .nil rfl .nil))))))))))) ?_
  refine x6x ?_
  exact ⟨.inr rfl, [_], rfl, rfl, hv⟩
 refine x7x (hK2 _ _ (x2x fun K4 hK4 => ?_))
 refine y0y (exA 2 rfl rfl (y9y rfl rfl q5q rfl rfl rfl rfl rfl (by simp only [a0y]; rfl) ?_))
 refine exG (x1x 2 rfl rfl (u5u (id := 2) v8v rfl v7v rfl rfl rfl rfl rfl rfl ?_))
 refine u6u (zs := ((List.range i).map fun (j : Nat) => [pI k, pI f, pI ((j + 1 : Nat) : Int), pI i0, pI v, pI r, pI g, .pv (.slice none 0 0), .pv (.slice none 0 0), .pv (.slice none 0 0), .pv (.slice none 0 0)]) ++ [[pI k, pI f, pI ((i + 1 : Nat) : Int), pI i0, pI v, pI r, pI g, .pv (.slice none 0 0), .pv (.slice none 0 0), .pv (.slice none 0 0), .pv (.slice none 0 0)]]) rfl rfl v8v rfl v7v rfl rfl rfl rfl (by rfl) rfl (by (simp only [a0w, a0q, a0v, a0x, a1t, a3w, T79]; omega)) ?_
 refine x0x rfl (hK4 _ _ (exG (x4x rfl (z5z (b := 1) rfl rfl (by omega) (x0x rfl ?_)))))
 exact ⟨i + 1, ⟨by omega, by omega⟩, [_, 0, _, _], cv, cv, (HE.row rfl (by rw [List.range_succ, List.map_append]; rfl) (HE.box rfl (by rw [if_neg (by omega : ¬ i + 1 = 0)] <;> rfl) (HE.kill rfl (HE.kill rfl HE.nil)))), hv, rfl⟩
theorem c8p (l : List Wo) (f : Int) : a1o Tryz.prog 329 [r1r true l, .pv (.int .i64 f)] (.tup [.agg (q2q true (f1u f l)), .pv (.bool (b6q f l).isSome)]) := by
 refine pX Tryz.f329 [.agg (q2q true (f1u f l)), .pv (.bool (b6q f l).isSome)] 1 ?_
 refine p2p 0 rfl fun hlen => ?_
 refine exR (y7y (id := 0) v7v b0r rfl (x0x rfl (x2x fun K1 hK1 => ?_)))
 refine exR (x0x rfl (y0y ?_))
 refine z3z (ι := Nat) (fun i γ1 => [(6, pI (i : Int))]) (fun i γ1 => []) (fun i => i ≤ l.length ∧ c8y l (fun _ w => ¬ w.from' = f) i) (fun i => l.length - i) (cK [0, 1, 4] rfl) (z0z 0 rfl HE.nil) 0 ⟨by omega, a2l⟩ [] cv hv rfl fun i γ1 hi => ?_
 obtain ⟨h1, h2⟩ := hi
 refine x2x fun K2 hK2 => ?_
 refine exA 2 rfl rfl (z2z rfl v8v rfl (v1v rfl rfl rfl (y2y rfl ?_ ?_)))<;>intro u<;>try simp at u
 ·have hno := e6k (a4b h2 (by omega))
  refine z4z (hK1 _ _ (exR (rlB v7v b0r ?_)))
  refine x3x rfl rfl v7v rfl rfl rfl rfl (x0x rfl (x6x ⟨.inr rfl, ?_⟩))
  (rw [f1u, hno]; exact ⟨_, _, rfl, c8a (.cl rfl .nil)⟩)
 obtain ⟨w, hw⟩ := gE l i
 refine x7x (hK2 _ _ (x2x fun K4 hK4 => ?_))
 refine y0y (exA 2 rfl rfl (y8y rfl rfl v8v rfl v7v rfl hw (x1x 4 rfl rfl (y2y rfl ?_ ?_))))<;>intro hc5<;>try simp at hc5
 ·have hne : ¬ w.from' = f := hc5
  refine x7x (hK4 _ _ (exG (x4x rfl (z5z (b := 1) rfl rfl (by omega) (x0x rfl ?_)))))
  exact ⟨i + 1, ⟨⟨by omega, a0u h2 hw hne⟩, by omega⟩, [], cv, cv, hv, hv, rfl⟩
 have hat := d5y h2 hw hc5
 refine exA 2 rfl rfl (y8y rfl rfl v8v rfl v7v rfl hw ?_)
 refine v9v (out := .agg (q2q true w)) rfl v7v rfl ?_
 refine x3x rfl rfl v7v rfl rfl rfl rfl (x0x rfl (x6x ⟨.inr rfl, ?_⟩))
 (rw [f1u, hat]; exact ⟨_, _, rfl, .agg rfl (.cl rfl (.cl rfl (.cl rfl (.cl rfl (.cl rfl (.cl rfl (.cl rfl (.cl rfl (.cl rfl (.cl rfl (.cl rfl (.nil)))))))))))) (.cl rfl .nil)⟩)
theorem c3p (c : Bool) (h : Hb) : a1o Tryz.prog 332 [.agg (a9h c h)] (.tup [.pv (.int .i64 (a0e h).1), .pv (.bool (a0e h).2)]) := by
 refine pX Tryz.f332 [.pv (.int .i64 (a0e h).1), .pv (.bool ((a0e h).2))] 1 ?_
 refine exR (z7z (id := 0) rfl rfl rfl (x1x 2 rfl rfl (x2x fun K1 hK1 => ?_)))
 refine exR (x5x rfl r4r rfl rfl rfl (x9x rfl rfl rfl (a9q ..) (x1x 2 rfl rfl (z6z rfl rfl ?_ ?_))))<;>intro hg2<;>try simp at hg2
 ·have hX : ¬ a7r h := fun q => a0z (by simpa using hg2) q.1
  refine x1x 10 rfl rfl (x8x rfl (fun hc21 => ?_) (fun hc21 => ?_))
  rotate_left
  ·simp at hc21
  try simp at hc21
  try have hX : ¬ a7r h := fun q => by have := q.2.1; have := q.2.2.1; omega
  refine exA 2 rfl rfl (x6x ⟨.inr rfl, ?_⟩)
  (rw [b6r hX]; exact ⟨_, _, rfl, .cl rfl (.cl rfl .nil)⟩)
 have hK : a1f h := a1x.1 (by simpa using hg2)
 refine x1x 2 rfl rfl (z1z rfl rfl (z2z rfl v8v rfl (x1x 3 rfl rfl (z6z rfl rfl ?_ ?_))))<;>intro u<;>try simp at u
 ·refine x1x 4 rfl rfl (x8x rfl (fun hc20 => ?_) (fun hc20 => ?_))
  rotate_left
  ·simp at hc20
  try simp at hc20
  try have hX : ¬ a7r h := fun q => by have := q.2.1; have := q.2.2.1; omega
  refine exA 2 rfl rfl (x6x ⟨.inr rfl, ?_⟩)
  (rw [b6r hX]; exact ⟨_, _, rfl, .cl rfl (.cl rfl .nil)⟩)
 refine x1x 2 rfl rfl (z1z rfl rfl (z2z rfl v8v rfl (x1x 2 rfl rfl (x8x rfl ?_ ?_))))<;>intro u<;>try simp at u
 ·try have hX : ¬ a7r h := fun q => by have := q.2.1; have := q.2.2.1; omega
  refine exA 2 rfl rfl (x6x ⟨.inr rfl, ?_⟩)
  (rw [b6r hX]; exact ⟨_, _, rfl, .cl rfl (.cl rfl .nil)⟩)
 have e1 : h.ones.length = 3 := by omega
 have e2 : h.twos.length = 3 := by omega
 refine x7x (hK1 _ _ (exR (x0x rfl (x2x fun K5 hK5 => ?_))))
 refine exR (x0x rfl (y0y ?_))
 refine z3z (ι := Nat) (fun i γ1 => [(4, pI (a2g 41 (h.ones.take i))), (5, pI (i : Int))]) (fun i γ1 => []) (fun i => i ≤ 3 ∧ ∀ j, j < i → e2h h j) (fun i => 3 - i) (y3y 1 rfl Cov.nil) (z0z 0 rfl HE.nil) 0 ⟨by omega, fun j hj => by omega⟩ [] (Cov.cons' (t := 4) rfl (rfl) (y3y 5 rfl Cov.nil)) hv rfl fun i γ1 hi => ?_
 obtain ⟨h1, h1b⟩ := hi
 refine x2x fun K6 hK6 => ?_
 refine exA 2 rfl rfl (y2y rfl ?_ ?_)<;>intro u<;>try simp at u
 ·obtain rfl : i = 3 := by omega
  have hT : a7r h := ⟨hK, e1, e2, fun j hj => h1b j hj⟩
  have e3 : a2g 41 (h.ones.take 3) = a2g 41 h.ones := by rw [List.take_of_length_le (by omega)]
  refine z4z (hK5 _ _ (exA 3 rfl rfl (x6x ⟨.inr rfl, ?_⟩)))
  (rw [f0y hT, ← e3]; exact ⟨_, _, rfl, .cl rfl (.cl rfl .nil)⟩)
 obtain ⟨a, ha⟩ := gE h.ones i
 obtain ⟨b, hb⟩ := gE h.twos i
 refine x7x (hK6 _ _ (x2x fun K8 hK8 => ?_))
 refine y0y (x2x fun K9 hK9 => ?_)
 refine exD (x1x 3 rfl rfl (y8y rfl rfl v8v rfl v7v rfl ha (x1x 5 rfl rfl (y8y rfl rfl v8v rfl v7v rfl hb (x1x 3 rfl rfl ⟨by kernel_rfl, x8x rfl ?_ ?_⟩)))))<;>intro hc10<;>try simp at hc10
 ·have hX : ¬ a7r h := fun q => by have := (q.2.2.2 i (by omega) a b ha hb).1; omega
  refine exA 2 rfl rfl (x6x ⟨.inr rfl, ?_⟩)
  (rw [b6r hX]; exact ⟨_, _, rfl, .cl rfl (.cl rfl .nil)⟩)
 have hI : a.inc = b.inc := hc10
 refine x7x (hK9 _ _ ?_)
 refine a0k (ι := Unit) (fun _i γ2 => [(4, pI (a2g 41 (h.ones.take (i + 1))))]) (fun _i γ2 => []) (fun _i => True) (cK [1, 5] rfl) (z0z 0 rfl HE.nil) ?_ fun _i γ2 hi => ?_
 ·refine exA 3 rfl rfl (y8y rfl rfl v8v rfl v7v rfl ha (x1x 4 rfl rfl (y2y rfl ?_ ?_)))<;>intro u<;>try simp at u
  ·have hlt : ¬ a.g < a2g 41 (h.ones.take i) := by omega
   refine x7x ?_
   exact ⟨(), trivial, [], (Cov.cons' (t := 4) rfl (congrArg (fun v : Int => AV.pv (.int .i64 v)) (d6a ha hlt)) Cov.nil), cv, hv, hv, rfl⟩
  have hlt : a.g < a2g 41 (h.ones.take i) := by omega
  refine exG (x1x 3 rfl rfl (y8y rfl rfl v8v rfl v7v rfl ha (x1x 3 rfl rfl ?_)))
  exact ⟨(), trivial, [], (Cov.cons' (t := 4) rfl (congrArg (fun v : Int => AV.pv (.int .i64 v)) (d5z ha hlt)) Cov.nil), cv, hv, hv, rfl⟩
 ·try dsimp only [b3s, b3t]
  refine exR (x0x rfl (y0y ?_))
  refine z3z (ι := Nat) (fun k γ3 => [(6, pI (k : Int))]) (fun k γ3 => []) (fun k => k ≤ 3 ∧ ∀ (q : Nat) x, q < k → q ≠ i → h.ones[q]? = some x → x.incs.getD i 0 = b.inc ∧ x.versions.getD i 0 = b.version) (fun k => 3 - k) (cK [1, 4, 5] rfl) (z0z 0 rfl HE.nil) 0 ⟨by omega, fun q x hq => by omega⟩ [] cv hv rfl fun k γ3 hi => ?_
  obtain ⟨h2, h2b⟩ := hi
  refine x2x fun K12 hK12 => ?_
  refine exA 2 rfl rfl (y2y rfl ?_ ?_)<;>intro u<;>try simp at u
  ·have hJ : e2h h i := fun a2 b2 ha2 hb2 => by rw [ha] at ha2; rw [hb] at hb2; cases ha2; cases hb2; exact ⟨hI, fun q x hne hx => h2b q x (by have := (List.getElem?_eq_some_iff.1 hx).1; omega) hne hx⟩
   refine z4z (hK8 _ _ (exG (x4x rfl (z5z (b := 1) rfl rfl (by omega) (x0x rfl ?_)))))
   exact ⟨i + 1, ⟨⟨by omega, fun j hj => by rcases Nat.lt_succ_iff_lt_or_eq.1 hj with q | q; exact h1b j q; subst q; exact hJ⟩, by omega⟩, [], cv, cv, hv, hv, rfl⟩
  obtain ⟨x0, hx0⟩ := gE h.ones k
  have hfu := hK.2.2.2.2 x0 (List.mem_of_getElem? hx0)
  obtain ⟨fu1, fu2⟩ := hfu
  obtain ⟨z, hz⟩ := gE x0.incs i
  obtain ⟨y, hy⟩ := gE x0.versions i
  refine x7x (hK12 _ _ (x2x fun K14 hK14 => ?_))
  refine y0y (exD (x1x 4 rfl rfl (z6z rfl rfl ?_ ?_)))<;>intro u<;>try simp at u
  ·refine x1x 34 rfl rfl ⟨by kernel_rfl, x8x rfl (fun hc19 => ?_) (fun hc19 => ?_)⟩
   ·simp at hc19
   try simp at hc19
   have hS : k ≠ i → x0.incs.getD i 0 = b.inc ∧ x0.versions.getD i 0 = b.version := fun hne => by rw [b3q hz, b3q hy]; omega
   refine x7x (hK14 _ _ (exG (x4x rfl (z5z (b := 1) rfl rfl (by omega) (x0x rfl ?_)))))
   exact ⟨k + 1, ⟨⟨by omega, fun q x hq hne hx => by rcases Nat.lt_succ_iff_lt_or_eq.1 hq with q1 | q1; exact h2b q x q1 hne hx; subst q1; rw [hx0] at hx; cases hx; exact hS hne⟩, by omega⟩, [], cv, cv, hv, hv, rfl⟩
  refine x1x 3 rfl rfl (z1z rfl rfl (y8y rfl rfl v8v rfl v7v rfl hx0 (x1x 3 rfl rfl (z1z rfl rfl (y8y rfl rfl q1q rfl q5q rfl hz (x1x 4 rfl rfl (z1z rfl rfl (y8y rfl rfl v8v rfl v7v rfl hb (x1x 4 rfl rfl (z6z rfl rfl ?_ ?_))))))))))<;>intro u<;>try simp at u
  ·refine x1x 17 rfl rfl ⟨by kernel_rfl, x8x rfl (fun hc18 => ?_) (fun hc18 => ?_)⟩
   rotate_left
   ·simp at hc18
   try simp at hc18
   have hX : ¬ a7r h := fun q => by have := (q.2.2.2 i (by omega) a b ha hb).2 k x0 (by omega) hx0; rw [b3q hz, b3q hy] at this; omega
   refine exA 2 rfl rfl (x6x ⟨.inr rfl, ?_⟩)
   (rw [b6r hX]; exact ⟨_, _, rfl, .cl rfl (.cl rfl .nil)⟩)
  refine x1x 3 rfl rfl (z1z rfl rfl (y8y rfl rfl v8v rfl v7v rfl hx0 (x1x 3 rfl rfl (z1z rfl rfl (y8y rfl rfl q1q rfl q5q rfl hy (x1x 4 rfl rfl (z1z rfl rfl (y8y rfl rfl v8v rfl v7v rfl hb (x1x 5 rfl rfl ⟨by kernel_rfl, x8x rfl ?_ ?_⟩)))))))))<;>intro u<;>try simp at u
  ·have hX : ¬ a7r h := fun q => by have := (q.2.2.2 i (by omega) a b ha hb).2 k x0 (by omega) hx0; rw [b3q hz, b3q hy] at this; omega
   refine exA 2 rfl rfl (x6x ⟨.inr rfl, ?_⟩)
   (rw [b6r hX]; exact ⟨_, _, rfl, .cl rfl (.cl rfl .nil)⟩)
  have hS : k ≠ i → x0.incs.getD i 0 = b.inc ∧ x0.versions.getD i 0 = b.version := fun hne => by rw [b3q hz, b3q hy]; omega
  refine x7x (hK14 _ _ (exG (x4x rfl (z5z (b := 1) rfl rfl (by omega) (x0x rfl ?_)))))
  exact ⟨k + 1, ⟨⟨by omega, fun q x hq hne hx => by rcases Nat.lt_succ_iff_lt_or_eq.1 hq with q1 | q1; exact h2b q x q1 hne hx; subst q1; rw [hx0] at hx; cases hx; exact hS hne⟩, by omega⟩, [], cv, cv, hv, hv, rfl⟩
end
section
theorem c4s (c : Bool) (n : Nd) (fS : a2p n) (i : Nat) (l : La) (hl : n.lanes[i]? = some l) : a1o Tryz.prog 141 [.agg (w6w c n), .pv (.int .i64 (i : Int))] (.tup [.agg (v4v (b2t l (a2m n l.proc)).1), .pv (.bool (b2t l (a2m n l.proc)).2)]) := by
 refine pX Tryz.f141 [.agg (v4v (b2t l (a2m n l.proc)).1), .pv (.bool (b2t l (a2m n l.proc)).2)] 2 ?_
 have fB := r8r fS
 refine exR (z7z (id := 0) rfl rfl rfl (y7y (id := 1) u0u a9t rfl (x0x rfl (exD (x1x 3 rfl rfl (y8y rfl rfl q6q rfl v6v rfl hl (x1x 5 rfl rfl (y8y rfl rfl q6q rfl v6v rfl hl (x1x 2 rfl rfl (x9x rfl rfl rfl (a5d c n l.proc (b4r fS) (by omega) fS.2.2.2.2.2.1) ?_))))))))))
 refine x9x rfl rfl rfl (b3y c true l (a2m n l.proc)) ?_
 refine x1x 2 rfl rfl (x3x rfl rfl u0u rfl rfl rfl rfl (x0x rfl ⟨by kernel_rfl, x6x ⟨.inr rfl, ?_⟩⟩))
 exact ⟨_, _, rfl, .agg rfl (.cl rfl (.cl rfl (.cl rfl (.cl rfl (.cl rfl (.cl rfl (.cl rfl .nil))))))) (.cl rfl .nil)⟩
theorem b5q (c : Bool) (n : Nd) : a1o Tryz.prog 44 [.agg (w6w c n)] (.pv (.int .i64 (b9e n))) := by
 refine pX Tryz.f44 [.pv (.int .i64 (b9e n))] 2 ?_
 refine exR (z7z (id := 0) rfl rfl rfl (x0x rfl (exR (x0x rfl (x2x fun K1 hK1 => ?_)))))
 refine exR (x5x rfl y5y rfl rfl rfl (x9x rfl rfl rfl (r6r ..) (a1k rfl (x8x rfl ?_ ?_))))<;>intro hc2<;>try simp at hc2
 ·have fX : ¬ u3u n := a0z (by simpa using hc2)
  refine exR (x0x rfl (x6x ⟨.inr rfl, ?_⟩))
  refine y6y rfl ?_ rfl
  exact congrArg (fun v : Int => [AV.pv (.int .i64 v)]) (e1a fX).symm
 have fK : u3u n := a1x.1 (by simpa using hc2)
 have fS := fK.1
 have fB := r8r fS
 refine x7x (hK1 _ _ (x2x fun K3 hK3 => ?_))
 refine exR (x0x rfl (y0y ?_))
 refine z3z (ι := Nat) (fun i γ1 => [(3, pI (b2u n i)), (4, pI (i : Int))]) (fun i γ1 => [(1, ((γ1 1), .dead))]) (fun i => i ≤ n.lanes.length) (fun i => n.lanes.length - i) (y3y 1 rfl Cov.nil) (z0z 0 rfl HE.nil) 0 (by omega) [0, _] cv hv rfl fun i γ1 hi => ?_
 refine x2x fun K4 hK4 => ?_
 refine exA 3 rfl rfl (z2z rfl q6q rfl (v1v rfl rfl rfl (y2y rfl ?_ ?_)))<;>intro j<;>try simp at j
 ·obtain rfl : i = n.lanes.length := by omega
  refine z4z (hK3 _ _ (exA 2 rfl rfl (x6x ⟨.inr rfl, ?_⟩)))
  refine y6y rfl ?_ rfl
  exact congrArg (fun v : Int => [AV.pv (.int .i64 v)]) (c2l fK).symm
 obtain ⟨l, hl⟩ := gE n.lanes i
 have hnc := c2m fK hl
 refine x7x (hK4 _ _ (x2x fun K6 hK6 => ?_))
 refine y0y (exA 2 rfl rfl (x9x rfl rfl rfl (c4s c n fS i l hl) (x1x 3 rfl rfl (y7y (id := 1) u0u a9t rfl (x3x rfl rfl u0u rfl rfl rfl rfl (x0x rfl ?_))))))
 rw [c2k ⟨hnc.2.1, hnc.2.2.1⟩]
 refine exA 2 rfl rfl (z6z rfl rfl ?_ ?_)<;>intro hg7<;>try simp at hg7
 ·have hno : ¬ ((a6i l (a2m n l.proc)).2 = true ∧ (a6i l (a2m n l.proc)).1.time < b2u n i) := fun h => by have := h.1; simp_all
  refine x1x 4 rfl rfl (x8x rfl (fun hc9 => ?_) (fun hc9 => ?_))
  ·simp at hc9
  try simp at hc9
  refine x7x (hK6 _ _ (exG (x4x rfl (z5z (b := 1) rfl rfl (by omega) (x0x rfl ?_)))))
  exact ⟨i + 1, ⟨by omega, by omega⟩, [0, _], (Cov.cons' (t := 3) rfl (congrArg (fun v : Int => AV.pv (.int .i64 v)) (d2w hl hno).symm) (y3y 4 rfl Cov.nil)), cv, hv, hv, rfl⟩
 have h2 : (a6i l (a2m n l.proc)).2 = true := hg7
 refine x1x 5 rfl rfl (y2y rfl ?_ ?_)<;>intro j<;>try simp at j
 ·have hno : ¬ ((a6i l (a2m n l.proc)).2 = true ∧ (a6i l (a2m n l.proc)).1.time < b2u n i) := by (intro h; omega)
  refine x7x (hK6 _ _ (exG (x4x rfl (z5z (b := 1) rfl rfl (by omega) (x0x rfl ?_)))))
  exact ⟨i + 1, ⟨by omega, by omega⟩, [0, _], (Cov.cons' (t := 3) rfl (congrArg (fun v : Int => AV.pv (.int .i64 v)) (d2w hl hno).symm) (y3y 4 rfl Cov.nil)), cv, hv, hv, rfl⟩
 have h3 : (a6i l (a2m n l.proc)).1.time < b2u n i := by omega
 refine exG (x1x 3 rfl rfl (hK6 _ _ (exG (x4x rfl (z5z (b := 1) rfl rfl (by omega) (x0x rfl ?_))))))
 exact ⟨i + 1, ⟨by omega, by omega⟩, [0, _], (Cov.cons' (t := 3) rfl (congrArg (fun v : Int => AV.pv (.int .i64 v)) (e0z hl ⟨h2, h3⟩).symm) (y3y 4 rfl Cov.nil)), cv, hv, hv, rfl⟩
end
section
theorem b1k (c : Bool) (n : Nd) (r : Int) : a1o Tryz.prog 61 [.agg (w6w c n), .pv (.int .i64 r)] (.tup [.agg (w6w true (p3p n r).1), .agg (q2q true (p3p n r).2.1), .pv (.bool (p3p n r).2.2)]) := by
 refine pX Tryz.f61 [.agg (w6w true (p3p n r).1), .agg (q2q true (p3p n r).2.1), .pv (.bool (p3p n r).2.2)] 14 ?_
 refine exR (z7z (id := 0) rfl rfl rfl (y7y (id := 1) y5y s5s rfl (y7y (id := 2) v7v b0r rfl (x0x rfl (x2x fun K1 hK1 => ?_)))))
 refine exR (x5x rfl y5y rfl rfl rfl (x9x rfl rfl rfl (r6r ..) (a1k rfl (x8x rfl ?_ ?_))))<;>intro hc2<;>try simp at hc2
 ·have fX : ¬ u3u n := a0z (by simpa using hc2)
  refine exR (rlB y5y s5s ?_)
  refine rlB v7v b0r ?_
  refine x3x rfl rfl y5y rfl rfl rfl rfl (x3x rfl rfl v7v rfl rfl rfl rfl (x0x rfl (x6x ⟨.inr rfl, ?_⟩)))
  (rw [e5h fX]; exact ⟨_, _, rfl, b6m (c8a (.cl rfl .nil))⟩)
 have fK : u3u n := a1x.1 (by simpa using hc2)
 have fS := fK.1
 have fB := r8r fS
 have fV := fS.2.2.2.2.2.1
 have fb := b9d fS
 refine x7x (hK1 _ _ (exR (x5x rfl y5y rfl rfl rfl ?_)))
 refine rlM [9, 10, 11] [_, _, _] (u1u c n fb) rfl rfl rfl ?_
 refine y7y (id := 3) y5y s5s rfl (x3x rfl rfl y5y rfl rfl rfl rfl (x2x fun K3 hK3 => ?_))
 refine exD (x1x 4 rfl rfl (z6z rfl rfl ?_ ?_))<;>intro hg4<;>try simp at hg4
 ·have fU : ¬ (n.up = true ∧ n.round + 1 ≤ r ∧ r ≤ 9999) := fun h => by have := h.1; simp_all
  refine x1x 7 rfl rfl ⟨by kernel_rfl, x8x rfl (fun hc10 => ?_) (fun hc10 => ?_)⟩
  rotate_left
  ·simp at hc10
  try simp at hc10
  refine exR (x5x rfl y5y rfl rfl rfl (rlB v7v b0r ?_))
  refine x3x rfl rfl y5y rfl rfl rfl rfl (x3x rfl rfl v7v rfl rfl rfl rfl (x0x rfl (x6x ⟨.inr rfl, ?_⟩)))
  (rw [d5h fK fU]; exact ⟨_, _, rfl, a0g rfl rfl rfl (c8a (.cl rfl .nil))⟩)
 have fUp : n.up = true := hg4
 refine x1x 3 rfl rfl (z1z rfl rfl ?_)
 refine a0r (.int .i64 (n.round + 1)) rfl rfl rfl (a7f rfl rfl (by have := fS.1.2.2.2.2.2.1; omega) (by have := fS.1.2.2.2.2.2.1; omega)) ?_
 refine z1z rfl rfl (x9x rfl rfl rfl (w5w ..) (z1z rfl rfl (x9x rfl rfl rfl (u8u ..) (x1x 2 rfl rfl ⟨by kernel_rfl, x8x rfl ?_ ?_⟩))))<;>intro j<;>try simp at j
 ·have fU : ¬ (n.up = true ∧ n.round + 1 ≤ r ∧ r ≤ 9999) := by (intro h; omega)
  refine exR (x5x rfl y5y rfl rfl rfl (rlB v7v b0r ?_))
  refine x3x rfl rfl y5y rfl rfl rfl rfl (x3x rfl rfl v7v rfl rfl rfl rfl (x0x rfl (x6x ⟨.inr rfl, ?_⟩)))
  (rw [d5h fK fU]; exact ⟨_, _, rfl, a0g rfl rfl rfl (c8a (.cl rfl .nil))⟩)
 have fU : n.up = true ∧ n.round + 1 ≤ r ∧ r ≤ 9999 := ⟨fUp, by omega⟩
 refine x7x (hK3 _ _ (exA 2 rfl rfl (y9y rfl rfl q5q rfl rfl rfl rfl rfl (by simp only [a0y]; rfl) ?_)))
 refine exR (y1y rfl y5y rfl rfl q5q rfl rfl (y9y rfl rfl q5q rfl rfl rfl rfl rfl (by simp only [a0y]; rfl) ?_))
 refine exD (x1x 6 rfl rfl (x9x rfl rfl rfl (b5q ..) (rlB v7v b0r ?_)))
 refine y7y (id := 4) v7v b0r rfl (x3x rfl rfl v7v rfl rfl rfl rfl ⟨by kernel_rfl, x2x fun K6 hK6 => ?_⟩)
 refine exR (x0x rfl (y0y (a0d 4 7 12 3 1 rfl rfl rfl rfl rfl (a0d 4 8 13 3 1 rfl rfl rfl rfl rfl ?_))))
 refine z3z (ι := Nat) (fun i γ1 => [(9, pI (i : Int))]) (fun i γ1 => [(12, ((γ1 12), .row 3 1 (((n.views.take i).map Vi.inc).map a6c))), (13, ((γ1 13), .row 3 1 (((n.views.take i).map Vi.version).map a6c))), (4, ((0 + 1), .box 79 [pI 3, pI n.id, pI 0, pI n.inc, pI 0, pI r, pI (b9e n), .ref 12 (γ1 12), .ref 13 (γ1 13), .pv (.slice none 0 0), .pv (.slice none 0 0)])), (5, ((γ1 5), .dead)), (6, ((γ1 6), .dead)), (7, ((γ1 7), .dead)), (8, ((γ1 8), .dead))]) (fun i => i ≤ 3) (fun i => 3 - i) (cK [2, 4, 5, 7, 8] rfl) (hK [0, 1, 2, 3, 9, 10, 11] rfl) 0 (by omega) [0, 0, 0, 0, 0, _, _, _, _, 0, 0, 0, _, _] cv (HE.row rfl (by rw [List.take_zero]; rfl) (HE.row rfl (by rw [List.take_zero]; rfl) (HE.box rfl rfl (HE.kill rfl (HE.kill rfl (HE.kill rfl (HE.kill rfl HE.nil))))))) rfl fun i γ1 hi => ?_
 refine x2x fun K7 hK7 => ?_
 refine exA 2 rfl rfl (y2y rfl ?_ ?_)<;>intro j<;>try simp at j
 ·obtain rfl : i = n.views.length := by omega
  rw [List.take_length]
  refine z4z (hK6 _ _ (exD (x1x 2 rfl rfl (x3x rfl rfl y5y rfl rfl rfl rfl (x3x rfl rfl v7v rfl rfl rfl rfl (x0x rfl ⟨by kernel_rfl, x6x ⟨.inr rfl, ?_⟩⟩))))))
  (rw [e5i fK fU, show e1b n r = { e1b n r with g := b9e n } from by rw [c2l fK]; rfl]; exact ⟨_, _, rfl, a0g (n := { n with round := r, low := 41 }) rfl rfl rfl (.agg rfl (.cl rfl (.cl rfl (.cl rfl (.cl rfl (.cl rfl (.cl rfl (.cl rfl (.ref rfl (Le.ow_map _ (fun _ => rfl) (fun _ => rfl)) (.ref rfl (Le.ow_map _ (fun _ => rfl) (fun _ => rfl)) (.le rfl .nil (.le rfl .nil .nil))))))))))) (.cl rfl .nil))⟩)
 obtain ⟨v, hv⟩ := gE n.views i
 refine x7x (hK7 _ _ (x2x fun K9 hK9 => ?_))
 refine y0y (exD (x1x 5 rfl rfl (y8y rfl rfl s6s rfl p0p rfl hv (x1x 2 rfl rfl (b0s (id := 5) q1q rfl q5q rfl rfl rfl rfl rfl ?_)))))
 refine u6u (zs := ((n.views.take i).map Vi.inc ++ [v.inc]).map a6c) rfl rfl q1q rfl q5q rfl rfl rfl rfl (by rfl) (w7w _ _ _) (by (simp only [a0w, a0q, a0v, a0x, a1t, T3]; omega)) ?_
 refine y1y rfl v7v rfl rfl q1q rfl rfl (y9y rfl rfl q1q rfl rfl rfl rfl rfl (by simp only [a0y]; rfl) ?_)
 refine ⟨by kernel_rfl, exH (x1x 5 rfl rfl (y8y rfl rfl s6s rfl p0p rfl hv (x1x 2 rfl rfl (b0s (id := 7) q1q rfl q5q rfl rfl rfl rfl rfl ?_))))⟩
 refine u6u (zs := ((n.views.take i).map Vi.version ++ [v.version]).map a6c) rfl rfl q1q rfl q5q rfl rfl rfl rfl (by rfl) (w7w _ _ _) (by (simp only [a0w, a0q, a0v, a0x, a1t, T3]; omega)) ?_
 refine y1y rfl v7v rfl rfl q1q rfl rfl (y9y rfl rfl q1q rfl rfl rfl rfl rfl (by simp only [a0y]; rfl) ?_)
 refine ⟨by kernel_rfl, hK9 _ _ (exG (x4x rfl (p7p rfl rfl rfl (x0x rfl ?_))))⟩
 exact ⟨i + 1, ⟨by omega, by omega⟩, [0, 0, 0, 0, 0, _, _, _, _, 0, 0, 0, _, _], (Cov.cons' (t := 9) rfl (by rw [u2u (by omega) (by omega)]; rfl) Cov.nil), (y3y 2 rfl (y3y 4 rfl (y3y 5 rfl (y3y 7 rfl (y3y 8 rfl Cov.nil))))), (HE.row rfl (by simp only [w0w hv, List.map_append, List.map_cons, List.map_nil]) (HE.row rfl (by simp only [w0w hv, List.map_append, List.map_cons, List.map_nil]) (HE.box rfl rfl (HE.kill rfl (HE.kill rfl (HE.kill rfl (HE.kill rfl HE.nil))))))), (z0z 0 rfl (z0z 1 rfl (z0z 2 rfl (z0z 3 rfl (z0z 9 rfl (z0z 10 rfl (z0z 11 rfl HE.nil))))))), rfl⟩
end
section
theorem b9n (c : Bool) (l : La) (u : Int) (hok : a7h l = true) : a1o Tryz.prog 25 [.agg (a0f c l), .pv (.int .i64 u)] (.tup [.agg (a0f true (c2p u l)), a1y true (c2q u l), a0p true (c7r u l)]) := by
 refine pX Tryz.f25 [.agg (a0f true (c2p u l)), a1y true (c2q u l), a0p true (c7r u l)] 8 ?_
 obtain ⟨h1, h2⟩ := a3v hok
 have hlb := e9r hok
 refine exR (z7z (id := 0) rfl rfl rfl (y7y (id := 1) v6v a7p rfl (x1x 2 rfl rfl (exR (z8z (id := 2) u9u rfl u0u rfl (x0x rfl (exR (z8z (id := 3) q8q rfl w8w rfl (x0x rfl (x2x fun K1 hK1 => ?_))))))))))
 refine exR (x5x rfl v6v rfl rfl rfl (x9x rfl rfl rfl (a4p ..) (a1k rfl (x8x rfl (fun hc2 => ?_) (fun hc2 => ?_)))))
 ·simp [hok] at hc2
 try simp at hc2
 refine x7x (hK1 _ _ (exR (x0x rfl (exA 2 rfl rfl (y7y (id := 4) a0t c9n rfl (x3x rfl rfl a0t rfl rfl rfl rfl (x2x fun K3 hK3 => ?_)))))))
 refine y0y ?_
 refine z3z (ι := Nat) (fun i γ1 => [(7, .ref 2 (γ1 2)), (8, .ref 3 (γ1 3)), (9, pI (i : Int))]) (fun i γ1 => [(2, ((γ1 2), .row 56 7 (((l.done.take i).flatMap Pa.sends).map v4v))), (3, ((γ1 3), .row 141 5 (((l.done.take i).flatMap Pa.outs).map a0c))), (4, ((0 + 1), .box 41 [pI (b5f l i).x, pI (b5f l i).y, pI (b5f l i).count])), (5, ((γ1 5), .dead)), (6, ((γ1 6), .dead))]) (fun i => i ≤ l.done.length ∧ (∀ (j : Nat) p, j < i → l.done[j]? = some p → p.ev.time < u)) (fun i => l.done.length - i) (cK [1, 2, 4, 10] rfl) (hK [0, 1, 7] rfl) 0 ⟨by omega, fun j p hj => by omega⟩ [0, 0, _, _, 0, _, _] cv (HE.row rfl (by rfl) (HE.row rfl (by rfl) (HE.box rfl rfl (HE.kill rfl (HE.kill rfl HE.nil))))) rfl fun i γ1 hi => ?_
 obtain ⟨k1, k2⟩ := hi
 refine x2x fun K4 hK4 => ?_
 refine exA 3 rfl rfl (z2z rfl r0r rfl (x1x 2 rfl rfl (z6z rfl rfl ?_ ?_)))<;>intro h<;>try simp at h
 ·have hcut : d0r u l.done = i := d2y k1 k2 (fun q hq => by rw [List.getElem?_eq_none (by omega)] at hq; cases hq)
  refine x1x 9 rfl rfl (x8x rfl (fun hc7 => ?_) (fun hc7 => ?_))
  ·simp [hok] at hc7
  try simp at hc7
  have hfs := b3l (f := Pa.sends) (m := 2) k1 fun p hp => (h2 p hp).1
  have hfo := b3l (f := Pa.outs) (m := 2) k1 fun p hp => (h2 p hp).2
  refine z4z (hK3 _ _ (exA 4 rfl rfl (z2z rfl r0r rfl (x9x rfl rfl rfl (a3x c l i l.done.length hlb.1 (by omega) hlb.1 hlb.2) ?_))))
  refine y7y (id := 7) v6v a7p rfl (x3x rfl rfl v6v rfl rfl rfl rfl (exA 2 rfl rfl (a1v rfl rfl a0t rfl rfl rfl rfl (a1d rfl) rfl ?_)))
  refine a1e 7 rfl rfl (fun _ => rfl) ?_
  refine a1e 8 rfl rfl (fun _ => rfl) ?_
  refine exD (x1x 2 rfl rfl (x9x rfl rfl rfl (a2k true _ (by omega)) ?_))
  refine x4x rfl (x9x rfl rfl rfl (a5c true _ (by omega)) ?_)
  refine x3x rfl rfl v6v rfl rfl rfl rfl (x1x 2 rfl rfl ⟨by kernel_rfl, x6x ⟨.inr rfl, ?_⟩⟩)
  subst hcut
  rw [show c2p u l = ⟨l.proc, b5f l (d0r u l.done), (l.done.take l.done.length).drop (d0r u l.done)⟩ from by rw [List.take_length]; rfl]
  exact ⟨_, _, rfl, .agg rfl (.cl rfl (.cl rfl (.cl rfl (.cl rfl (.cl rfl .nil))))) (.cl rfl (.cl rfl .nil))⟩
 obtain ⟨p, hp⟩ := gE l.done i
 have hpb := h2 p (List.mem_of_getElem? hp)
 refine x1x 3 rfl rfl (z1z rfl rfl (y8y rfl rfl r0r rfl r5r rfl hp (x1x 6 rfl rfl (y2y rfl ?_ ?_))))<;>intro hc6<;>try simp at hc6
 ·have hcut : d0r u l.done = i := by exact d2y k1 k2 (fun q hq => by rw [hp] at hq; cases hq; omega)
  have hfs := b3l (f := Pa.sends) (m := 2) k1 fun p hp => (h2 p hp).1
  have hfo := b3l (f := Pa.outs) (m := 2) k1 fun p hp => (h2 p hp).2
  refine z4z (hK3 _ _ (exA 4 rfl rfl (z2z rfl r0r rfl (x9x rfl rfl rfl (a3x c l i l.done.length hlb.1 (by omega) hlb.1 hlb.2) ?_))))
  refine y7y (id := 7) v6v a7p rfl (x3x rfl rfl v6v rfl rfl rfl rfl (exA 2 rfl rfl (a1v rfl rfl a0t rfl rfl rfl rfl (a1d rfl) rfl ?_)))
  refine a1e 7 rfl rfl (fun _ => rfl) ?_
  refine a1e 8 rfl rfl (fun _ => rfl) ?_
  refine exD (x1x 2 rfl rfl (x9x rfl rfl rfl (a2k true _ (by omega)) ?_))
  refine x4x rfl (x9x rfl rfl rfl (a5c true _ (by omega)) ?_)
  refine x3x rfl rfl v6v rfl rfl rfl rfl (x1x 2 rfl rfl ⟨by kernel_rfl, x6x ⟨.inr rfl, ?_⟩⟩)
  subst hcut
  rw [show c2p u l = ⟨l.proc, b5f l (d0r u l.done), (l.done.take l.done.length).drop (d0r u l.done)⟩ from by rw [List.take_length]; rfl]
  exact ⟨_, _, rfl, .agg rfl (.cl rfl (.cl rfl (.cl rfl (.cl rfl (.cl rfl .nil))))) (.cl rfl (.cl rfl .nil))⟩
 have hlt : p.ev.time < u := hc6
 have hfs := b3l (f := Pa.sends) (m := 2) (show i ≤ l.done.length by omega) fun p hp => (h2 p hp).1
 have hfo := b3l (f := Pa.outs) (m := 2) (show i ≤ l.done.length by omega) fun p hp => (h2 p hp).2
 refine x7x (hK4 _ _ (y0y (exA 3 rfl rfl (y8y rfl rfl r0r rfl r5r rfl hp (y1y rfl r5r rfl rfl a0t rfl rfl ?_)))))
 refine v9v (out := .agg (a2h p.after)) rfl a0t rfl ?_
 refine x3x rfl rfl a0t rfl rfl rfl rfl (exA 4 rfl rfl (y8y rfl rfl r0r rfl r5r rfl hp (x1x 2 rfl rfl ?_)))
 refine s1s (zs := ((l.done.take i).flatMap Pa.sends ++ p.sends).map v4v) rfl rfl u9u rfl u0u rfl rfl rfl (w3w (fun _ => rfl) _) (a9u _ _ _) (by (simp only [a0w, a0q, a0v, a0x, a1t, b3r, T56]; omega)) ?_
 refine x0x rfl (exA 4 rfl rfl (y8y rfl rfl r0r rfl r5r rfl hp (x1x 2 rfl rfl ?_)))
 refine s1s (zs := ((l.done.take i).flatMap Pa.outs ++ p.outs).map a0c) rfl rfl q8q rfl w8w rfl rfl rfl (w3w (fun _ => rfl) _) (a9u _ _ _) (by (simp only [a0w, a0q, a0v, a0x, a1t, b3r, T141]; omega)) ?_
 refine x0x rfl (exG (x4x rfl (z5z (b := 1) rfl rfl (by omega) (x0x rfl ?_))))
 exact ⟨i + 1, ⟨⟨by omega, fun j q hj hq => by by_cases e : j = i; (subst e; rw [hp] at hq; cases hq; exact hlt); exact k2 j q (by omega) hq⟩, by omega⟩, [0, 0, _, _, 0, _, _], cv, cv, (HE.row rfl (by rw [a6b hp]) (HE.row rfl (by rw [a6b hp]) (HE.box rfl (by rw [c2o hp]; rfl) (HE.kill rfl (HE.kill rfl HE.nil))))), hv, rfl⟩
end
section
theorem b1l (c : Bool) (n : Nd) (r g : Int) : a1o Tryz.prog 67 [.agg (w6w c n), .pv (.int .i64 r), .pv (.int .i64 g)] (.tup [.agg (w6w true (a0i n r g).1), .pv (.bool (a0i n r g).2)]) := by
 refine pX Tryz.f67 [.agg (w6w true (a0i n r g).1), .pv (.bool (a0i n r g).2)] 19 ?_
 refine exR (z7z (id := 0) rfl rfl rfl (y7y (id := 1) y5y s5s rfl (x0x rfl (x2x fun K1 hK1 => ?_))))
 refine exR (x5x rfl y5y rfl rfl rfl (x9x rfl rfl rfl (r6r c n) (a1k rfl (x8x rfl ?_ ?_))))<;>intro hc2<;>try simp at hc2
 ·have fX : ¬ u3u n := a0z (by simpa using hc2)
  refine exR (rlB y5y s5s ?_)
  refine x3x rfl rfl y5y rfl rfl rfl rfl (x0x rfl (x6x ⟨.inr rfl, ?_⟩))
  (rw [e5o fX]; exact ⟨_, _, rfl, b6m (.cl rfl .nil)⟩)
 have fK : u3u n := a1x.1 (by simpa using hc2)
 have fS := fK.1
 have fB := r8r fS
 have fV := fS.2.2.2.2.2.1
 have fb := b9d fS
 have fM0 := c2l fK
 have fL := c7s fS
 have fG := fS.1.2.2.1
 refine x7x (hK1 _ _ (exR (x5x rfl y5y rfl rfl rfl ?_)))
 refine rlM [13, 14, 15] [_, _, _] (u1u c n fb) rfl rfl rfl ?_
 refine y7y (id := 2) y5y s5s rfl (x3x rfl rfl y5y rfl rfl rfl rfl (x2x fun K3 hK3 => ?_))
 refine exD (x1x 4 rfl rfl (z6z rfl rfl ?_ ?_))<;>intro hg4<;>try simp at hg4
 ·have fU : ¬ b3m n r g := by (rintro ⟨m1, m2, m3, m4, m5, m6, m7, m8⟩; (simp_all; done))
  refine x1x 34 rfl rfl ⟨by kernel_rfl, x8x rfl (fun hc27 => ?_) (fun hc27 => ?_)⟩
  rotate_left
  ·simp at hc27
  try simp at hc27
  refine exR (x5x rfl y5y rfl rfl rfl (x3x rfl rfl y5y rfl rfl rfl rfl (x0x rfl (x6x ⟨.inr rfl, ?_⟩))))
  (rw [b1y fK fU]; exact ⟨_, _, rfl, a0g (n := n) rfl rfl rfl (.cl rfl .nil)⟩)
 have fUp : n.up = true := hg4
 refine x1x 4 rfl rfl (z6z rfl rfl ?_ ?_)<;>intro h<;>try simp at h
 ·have fU : ¬ b3m n r g := by (rintro ⟨m1, m2, m3, m4, m5, m6, m7, m8⟩; omega)
  refine x1x 30 rfl rfl ⟨by kernel_rfl, x8x rfl (fun hc26 => ?_) (fun hc26 => ?_)⟩
  rotate_left
  ·simp at hc26
  try simp at hc26
  refine exR (x5x rfl y5y rfl rfl rfl (x3x rfl rfl y5y rfl rfl rfl rfl (x0x rfl (x6x ⟨.inr rfl, ?_⟩))))
  (rw [b1y fK fU]; exact ⟨_, _, rfl, a0g (n := n) rfl rfl rfl (.cl rfl .nil)⟩)
 refine x1x 6 rfl rfl (z6z rfl rfl ?_ ?_)<;>intro h<;>try simp at h
 ·have fU : ¬ b3m n r g := by (rintro ⟨m1, m2, m3, m4, m5, m6, m7, m8⟩; omega)
  refine x1x 24 rfl rfl ⟨by kernel_rfl, x8x rfl (fun hc25 => ?_) (fun hc25 => ?_)⟩
  rotate_left
  ·simp at hc25
  try simp at hc25
  refine exR (x5x rfl y5y rfl rfl rfl (x3x rfl rfl y5y rfl rfl rfl rfl (x0x rfl (x6x ⟨.inr rfl, ?_⟩))))
  (rw [b1y fK fU]; exact ⟨_, _, rfl, a0g (n := n) rfl rfl rfl (.cl rfl .nil)⟩)
 refine x1x 3 rfl rfl (z1z rfl rfl (a0r (.int .i64 (n.g + 1)) rfl rfl rfl (a7f rfl rfl (by omega) (by omega)) ?_))
 refine z1z rfl rfl (x9x rfl rfl rfl (u8u ..) (x1x 3 rfl rfl (z6z rfl rfl ?_ ?_)))<;>intro h<;>try simp at h
 ·have fU : ¬ b3m n r g := by (rintro ⟨m1, m2, m3, m4, m5, m6, m7, m8⟩; omega)
  refine x1x 16 rfl rfl ⟨by kernel_rfl, x8x rfl (fun hc24 => ?_) (fun hc24 => ?_)⟩
  rotate_left
  ·simp at hc24
  try simp at hc24
  refine exR (x5x rfl y5y rfl rfl rfl (x3x rfl rfl y5y rfl rfl rfl rfl (x0x rfl (x6x ⟨.inr rfl, ?_⟩))))
  (rw [b1y fK fU]; exact ⟨_, _, rfl, a0g (n := n) rfl rfl rfl (.cl rfl .nil)⟩)
 refine x1x 6 rfl rfl (z6z rfl rfl ?_ ?_)<;>intro h<;>try simp at h
 ·have fU : ¬ b3m n r g := by (rintro ⟨m1, m2, m3, m4, m5, m6, m7, m8⟩; omega)
  refine x1x 10 rfl rfl ⟨by kernel_rfl, x8x rfl (fun hc23 => ?_) (fun hc23 => ?_)⟩
  rotate_left
  ·simp at hc23
  try simp at hc23
  refine exR (x5x rfl y5y rfl rfl rfl (x3x rfl rfl y5y rfl rfl rfl rfl (x0x rfl (x6x ⟨.inr rfl, ?_⟩))))
  (rw [b1y fK fU]; exact ⟨_, _, rfl, a0g (n := n) rfl rfl rfl (.cl rfl .nil)⟩)
 refine x5x rfl y5y rfl rfl rfl (z1z rfl rfl (x9x rfl rfl rfl (b5q c n) (x1x 4 rfl rfl (z6z rfl rfl ?_ ?_))))<;>intro h<;>try simp at h
 ·have fU : ¬ b3m n r g := by (rintro ⟨m1, m2, m3, m4, m5, m6, m7, m8⟩; omega)
  refine x1x 4 rfl rfl ⟨by kernel_rfl, x8x rfl (fun hc22 => ?_) (fun hc22 => ?_)⟩
  rotate_left
  ·simp at hc22
  try simp at hc22
  refine exR (x5x rfl y5y rfl rfl rfl (x3x rfl rfl y5y rfl rfl rfl rfl (x0x rfl (x6x ⟨.inr rfl, ?_⟩))))
  (rw [b1y fK fU]; exact ⟨_, _, rfl, a0g (n := n) rfl rfl rfl (.cl rfl .nil)⟩)
 refine x1x 2 rfl rfl (z1z rfl rfl (x9x rfl rfl rfl (w5w ..) (x1x 2 rfl rfl ⟨by kernel_rfl, x8x rfl ?_ ?_⟩)))<;>intro h<;>try simp at h
 ·have fU : ¬ b3m n r g := by (rintro ⟨m1, m2, m3, m4, m5, m6, m7, m8⟩; omega)
  refine exR (x5x rfl y5y rfl rfl rfl (x3x rfl rfl y5y rfl rfl rfl rfl (x0x rfl (x6x ⟨.inr rfl, ?_⟩))))
  (rw [b1y fK fU]; exact ⟨_, _, rfl, a0g (n := n) rfl rfl rfl (.cl rfl .nil)⟩)
 have fM : b3m n r g := ⟨fUp, by omega, by omega, by omega, by omega, by omega, by omega, by omega⟩
 obtain ⟨k, hk, hk3, hkn⟩ := f3d fS
 have hkl := fS.2.2.2.2.2.2.1
 obtain ⟨kn, hkv⟩ := gE n.known k
 have hKk : n.known.set n.id.toNat g = n.known.set k g := by rw [hkn]
 refine x7x (hK3 _ _ (exA 3 rfl rfl (exA 3 rfl rfl (x2x fun K11 hK11 => ?_))))
 refine exR (x0x rfl (y0y ?_))
 refine z3z (ι := Nat) (fun i γ1 => [(9, a1y c (a4q n g i)), (10, a0p c (b2l n g i)), (11, pI (i : Int))]) (fun i γ1 => [(13, ((0 + 1), .row 44 5 ((b9f g n.lanes i).map (a0f true)))), (3, ((γ1 3), .dead)), (4, ((γ1 4), .dead)), (5, ((γ1 5), .dead)), (6, ((γ1 6), .dead)), (7, ((γ1 7), .dead)), (8, ((γ1 8), .dead)), (9, ((γ1 9), .dead))]) (fun i => i ≤ n.lanes.length) (fun i => n.lanes.length - i) (cK [2, 3, 6, 8] rfl) (hK [0, 1, 2, 10, 11, 12, 14, 15, 16, 17, 18] rfl) 0 (by omega) [0, 0, 0, _, _, _, _, _, _, _] (Cov.cons' (t := 9) rfl (by rw [d2z]) (Cov.cons' (t := 10) rfl (by rw [d3a]) (y3y 11 rfl Cov.nil))) (HE.row rfl (by rw [d7h]) (HE.kill rfl (HE.kill rfl (HE.kill rfl (HE.kill rfl (HE.kill rfl (HE.kill rfl (HE.kill rfl HE.nil)))))))) rfl fun i γ1 hi => ?_
 refine x2x fun K12 hK12 => ?_
 refine exA 3 rfl rfl (z2z rfl q6q rfl (v1v rfl rfl rfl (x8x rfl ?_ ?_)))<;>intro h<;>try simp at h
 ·obtain ⟨l, hp⟩ := gE n.lanes i
  have hkt := d0s fS g (i + 1)
  rw [c2r hp, List.length_append] at hkt
  have hot := d0t fS g (i + 1)
  rw [c2s hp, List.length_append] at hot
  have hlt2 : i < (b9f g n.lanes i).length := by rw [e1f _ _ (by omega)]; omega
  have hll := fL l (List.mem_of_getElem? hp)
  refine x7x (hK12 _ _ (x2x fun K14 hK14 => ?_))
  refine y0y (exA 3 rfl rfl (y8y rfl rfl q6q rfl v6v rfl hp (x1x 2 rfl rfl (x9x rfl rfl rfl (b9n c l g hll) (x1x 4 rfl rfl (y7y (id := 3) v6v a7p rfl (x3x rfl rfl v6v rfl rfl rfl rfl (x1x 2 rfl rfl (exA 4 rfl rfl ?_)))))))))
  refine v2v (j := i) rfl rfl q6q rfl v6v rfl rfl hlt2 ?_
  refine q9q (el' := c2p g l) rfl rfl v6v rfl rfl rfl (e5m hp) rfl (a0j rfl) rfl rfl ?_
  refine exR (z8z (id := 4) u9u rfl u0u rfl (x4x rfl ?_))
  refine s1s (zs := (a4q n g i).map v4v) rfl rfl u9u rfl u0u rfl rfl rfl (w3w (fun _ => rfl) _) rfl (by (simp only [a0w, a0q, a0v, a0x, a1t, T56]; omega)) ?_
  refine x4x rfl ?_
  refine a2o s3s (zs := (a4q n g i ++ c2q g l).map v4v) rfl rfl u9u rfl u0u rfl rfl rfl (w3w (fun _ => rfl) _) (a9u _ _ _) (by (simp only [a0w, a0q, a0v, a0x, a1t, T56]; omega)) (Le.ow_map _ (fun _ => rfl) (fun _ => rfl)) ?_
  refine x0x rfl (exG (z8z (id := 7) q8q rfl w8w rfl (x4x rfl ?_)))
  refine s1s (zs := (b2l n g i).map a0c) rfl rfl q8q rfl w8w rfl rfl rfl (w3w (fun _ => rfl) _) rfl (by (simp only [a0w, a0q, a0v, a0x, a1t, T141]; omega)) ?_
  refine x4x rfl ?_
  refine a2o s3s (zs := (b2l n g i ++ c7r g l).map a0c) rfl rfl q8q rfl w8w rfl rfl rfl (w3w (fun _ => rfl) _) (a9u _ _ _) (by (simp only [a0w, a0q, a0v, a0x, a1t, T141]; omega)) (Le.ow_map _ (fun _ => rfl) (fun _ => rfl)) ?_
  refine x0x rfl (hK14 _ _ ?_)
  refine d9g 9 rfl (.le rfl (Le.low_map (c := c) (l := a4q n g i ++ c2q g l) (f := v4v) fun _ => rfl) .nil) ?_
  refine d9g 10 rfl (.le rfl (Le.low_map (c := c) (l := b2l n g i ++ c7r g l) (f := a0c) fun _ => rfl) .nil) ?_
  refine exG (x4x rfl (p7p rfl rfl rfl (x0x rfl ?_)))
  exact ⟨i + 1, ⟨by omega, by omega⟩, [0, 0, 0, _, _, _, _, _, _, _], (Cov.cons' (t := 9) rfl (by rw [c2r hp]; rfl) (Cov.cons' (t := 10) rfl (by rw [c2s hp]; rfl) (Cov.cons' (t := 11) rfl (by rw [u2u (by omega) (by omega)]; rfl) Cov.nil))), cv, (HE.row rfl (by rw [e1g hp]) (HE.kill rfl (HE.kill rfl (HE.kill rfl (HE.kill rfl (HE.kill rfl (HE.kill rfl (HE.kill rfl HE.nil)))))))), hv, rfl⟩
 obtain rfl : i = n.lanes.length := by omega
 have hkt := d0s fS g n.lanes.length
 have hot := d0t fS g n.lanes.length
 have hkq : ∀ e ∈ p8p (a4q n g n.lanes.length), okE e = true := fun e he => e1h fS ((b4o _ _).1 he)
 have hqs := b0z (a4q n g n.lanes.length)
 refine z4z (hK11 _ _ (exA 2 rfl rfl (y9y rfl rfl q5q rfl rfl rfl rfl rfl (by simp only [a0y]; rfl) ?_)))
 refine exA 5 rfl rfl ?_
 refine v2v (j := k) rfl (by rw [← hk]; rfl) q1q rfl q5q rfl rfl (v5v hkv) ?_
 refine b4n (el' := g) rfl rfl q5q rfl rfl rfl hkv rfl (by omega) (.val rfl rfl .nil) rfl rfl ?_
 refine exR (z8z (id := 10) u9u rfl u0u rfl (y1y rfl y5y rfl rfl u9u rfl rfl (y9y rfl rfl u9u rfl rfl rfl rfl rfl (by simp only [a0y]; rfl) ?_)))
 refine exR (x4x rfl (x9x rfl rfl rfl (a2k c _ (by omega)) ?_))
 refine x0x rfl (x2x fun K15 hK15 => ?_)
 refine exR (x0x rfl (y0y ?_))
 refine z3z (ι := Nat) (fun j γ2 => [(15, pI (j : Int))]) (fun j γ2 => [(10, ((γ2 10), .row 56 7 ((((p8p (a4q n g n.lanes.length)).take j).filter (d0u (n.known.set k g))).map v4v))), (2, ((0 + 1), .box 65 [pI n.id, .pv (.bool n.up), pI n.inc, pI g, .ref 13 (0 + 1), .ref 10 (γ2 10), a0p true n.outs, pI n.led, pI n.version, .ref 14 (0 + 1), .ref 15 (0 + 1), pI n.round, pI n.low])), (11, ((γ2 11), .dead)), (12, ((γ2 12), .dead))]) (fun j => j ≤ (p8p (a4q n g n.lanes.length)).length) (fun j => (p8p (a4q n g n.lanes.length)).length - j) (cK [3, 6, 8, 9, 10] rfl) (hK [0, 1, 3, 4, 5, 6, 7, 8, 9, 13, 14, 15, 16, 17, 18] rfl) 0 (by omega) [0, 0, 0, 0, 0, 0, 0, 0, 0, 0, _, _, _] cv (HE.row rfl (by rw [List.take_zero]; rfl) (HE.box rfl rfl (HE.kill rfl (HE.kill rfl HE.nil)))) rfl fun j γ2 hi => ?_
 refine x2x fun K16 hK16 => ?_
 refine exA 2 rfl rfl (z2z rfl u9u rfl (v1v rfl rfl rfl (y2y rfl ?_ ?_)))<;>intro h<;>try simp at h
 ·obtain rfl : j = (p8p (a4q n g n.lanes.length)).length := by omega
  refine z4z (hK15 _ _ (exR (x4x rfl (x9x rfl rfl rfl (a5c c _ (by omega)) ?_))))
  refine y1y rfl y5y rfl rfl q8q rfl rfl (y9y rfl rfl q8q rfl rfl rfl rfl rfl (by simp only [a0y]; rfl) ?_)
  refine x2x fun K20 hK20 => ?_
  refine b3f 10 (xs' := (a4u n g).kept.map v4v) rfl (by simp only [a4u, hKk, c7t, List.take_length]) ?_
  refine b3f 13 (xs' := (a4u n g).lanes.map (a0f true)) rfl (by rw [e1d]; rfl) ?_
  refine b3f 15 (xs' := (a4u n g).known.map a6c) rfl (by simp only [a4u, hKk]) ?_
  refine w9w (b := b8a true (a4u n g).lanes) 2 4 rfl rfl rfl (.ref rfl (Le.ow_map _ (fun _ => rfl) (fun _ => rfl)) .nil) rfl rfl rfl rfl ?_
  refine w9w (b := a1y true (a4u n g).kept) 2 5 rfl rfl rfl (.ref rfl (Le.ow_map _ (fun _ => rfl) (fun _ => rfl)) .nil) rfl rfl rfl rfl ?_
  refine w9w (b := b9h true n.views) 2 9 rfl rfl rfl (.ref rfl (Le.ow_map _ (fun _ => rfl) (fun _ => rfl)) .nil) rfl rfl rfl rfl ?_
  refine w9w (b := a4l true (a4u n g).known) 2 10 rfl rfl rfl (.ref rfl (Le.ow_map _ (fun _ => rfl) (fun _ => rfl)) .nil) rfl rfl rfl rfl ?_
  refine exR (x5x rfl y5y rfl rfl rfl (x9x rfl rfl rfl (r6r true (a4u n g)) ?_))
  refine a1k rfl (x8x rfl ?_ ?_)<;>intro hc21<;>try simp at hc21
  ·have fX2 : ¬ u3u (a4u n g) := a0z (by simpa using hc21)
   refine exR (x5x rfl y5y rfl rfl rfl ?_)
   refine rlM [16, 17, 18] [_, _, _] (u1u c n fb) rfl rfl rfl ?_
   refine x3x rfl rfl y5y rfl rfl rfl rfl (x0x rfl (x6x ⟨.inr rfl, ?_⟩))
   (rw [d5i fK fM, c2u fX2]; exact ⟨_, _, rfl, a0g (n := n) rfl rfl rfl (.cl rfl .nil)⟩)
  have fK2 : u3u (a4u n g) := a1x.1 (by simpa using hc21)
  have fb2 := b9d fK2.1
  refine x7x (hK20 _ _ (exR (x5x rfl y5y rfl rfl rfl ?_)))
  refine rlM [16, 17, 18] [_, _, _] (u1u true (a4u n g) fb2) rfl rfl rfl ?_
  refine x3x rfl rfl y5y rfl rfl rfl rfl (x0x rfl (x6x ⟨.inr rfl, ?_⟩))
  (rw [d5i fK fM, c2t fK2]; exact ⟨_, _, rfl, a0g (n := a4u n g) rfl rfl rfl (.cl rfl .nil)⟩)
 obtain ⟨e, he⟩ := gE (p8p (a4q n g n.lanes.length)) j
 obtain ⟨k2, v, hk2, hv, hw⟩ := e5n (kn := n.known.set k g) (hkq e (List.mem_of_getElem? he)) (by rw [List.length_set]; exact hkl)
 have hfl : (((p8p (a4q n g n.lanes.length)).take j).filter (d0u (n.known.set k g))).length ≤ 1000000 := Nat.le_trans (List.length_filter_le _ _) (by rw [List.length_take]; omega)
 refine x7x (hK16 _ _ (x2x fun K18 hK18 => ?_))
 refine y0y (exD (x1x 2 rfl rfl (y8y rfl rfl u9u rfl u0u rfl he (x1x 6 rfl rfl (y8y rfl rfl u9u rfl u0u rfl he (x1x 2 rfl rfl (x9x rfl rfl rfl (a2n ..) ?_)))))))
 refine v2v (j := k2) rfl (by rw [← hk2]; rfl) q1q rfl q5q rfl rfl (v5v hv) ?_
 refine a1h rfl q5q rfl hv rfl (v1v rfl rfl rfl ⟨by kernel_rfl, y2y rfl ?_ ?_⟩)<;>intro h<;>try simp at h
 ·have hwf : ¬ d0u (n.known.set k g) e = true := by rw [hw]; simp; omega
  refine x7x (hK18 _ _ (exG (x4x rfl (p7p rfl rfl rfl (x0x rfl ?_)))))
  exact ⟨j + 1, ⟨by omega, by omega⟩, [0, 0, 0, 0, 0, 0, 0, 0, 0, 0, _, _, _], (Cov.cons' (t := 15) rfl (by rw [u2u (by omega) (by omega)]; rfl) Cov.nil), (y3y 3 rfl (y3y 6 rfl (y3y 8 rfl (y3y 9 rfl (y3y 10 rfl Cov.nil))))), (HE.row rfl (by rw [a1m he]; rw [if_neg hwf, List.append_nil]) (HE.box rfl rfl (HE.kill rfl (HE.kill rfl HE.nil)))), (z0z 0 rfl (z0z 1 rfl (z0z 3 rfl (z0z 4 rfl (z0z 5 rfl (z0z 6 rfl (z0z 7 rfl (z0z 8 rfl (z0z 9 rfl (z0z 13 rfl (z0z 14 rfl (z0z 15 rfl (z0z 16 rfl (z0z 17 rfl (z0z 18 rfl HE.nil))))))))))))))), rfl⟩
 have hwt : d0u (n.known.set k g) e = true := by rw [hw]; exact decide_eq_true (by omega)
 refine exH (x1x 4 rfl rfl (y8y rfl rfl u9u rfl u0u rfl he (u4u rfl u0u rfl rfl (u5u (id := 11) u9u rfl u0u rfl rfl rfl rfl rfl rfl ?_))))
 refine u6u (zs := (((p8p (a4q n g n.lanes.length)).take j).filter (d0u (n.known.set k g)) ++ [e]).map v4v) rfl rfl u9u rfl u0u rfl rfl rfl rfl (by rfl) (w7w _ _ _) (by (simp only [a0w, a0q, a0v, a0x, a1t, T56]; omega)) ?_
 refine y1y rfl y5y rfl rfl u9u rfl rfl (y9y rfl rfl u9u rfl rfl rfl rfl rfl (by simp only [a0y]; rfl) ?_)
 refine ⟨by kernel_rfl, hK18 _ _ (exG (x4x rfl (p7p rfl rfl rfl (x0x rfl ?_))))⟩
 exact ⟨j + 1, ⟨by omega, by omega⟩, [0, 0, 0, 0, 0, 0, 0, 0, 0, 0, _, _, _], (Cov.cons' (t := 15) rfl (by rw [u2u (by omega) (by omega)]; rfl) Cov.nil), (y3y 3 rfl (y3y 6 rfl (y3y 8 rfl (y3y 9 rfl (y3y 10 rfl Cov.nil))))), (HE.row rfl (by rw [a1m he]; rw [if_pos hwt]) (HE.box rfl rfl (HE.kill rfl (HE.kill rfl HE.nil)))), (z0z 0 rfl (z0z 1 rfl (z0z 3 rfl (z0z 4 rfl (z0z 5 rfl (z0z 6 rfl (z0z 7 rfl (z0z 8 rfl (z0z 9 rfl (z0z 13 rfl (z0z 14 rfl (z0z 15 rfl (z0z 16 rfl (z0z 17 rfl (z0z 18 rfl HE.nil))))))))))))))), rfl⟩
end
section
def c6h (c : Bool) (vs : List Vi) : List (Value × AV) := vs.zipIdx.map fun p => (.int .i64 (p.2 : Int), .agg (a4g c p.1))
def c4t (n : Nat) : List Int := (List.range n).map fun (i : Nat) => (i : Int)
variable {c : Bool} {vs : List Vi} {i : Nat} {v : Vi}
theorem f1p (h : vs[i]? = some v) : (c6h c vs)[i]? = some (.int .i64 (i : Int), .agg (a4g c v)) := by
 rw [c6h, List.getElem?_map, List.getElem?_zipIdx, h]; simp
theorem d1o (c : Bool) (vs : List Vi) : (c6h c vs).map (·.1) = (c4t vs.length).map fun n => Value.int .i64 n := by
 apply List.ext_getElem?
 intro i
 simp only [c6h, c4t, List.getElem?_map, List.getElem?_zipIdx, List.getElem?_range]
 by_cases h : i < vs.length
 ·simp [h]
 ·rw [List.getElem?_eq_none (by omega : vs.length ≤ i)]; simp [h]
theorem e6o (h : i < n) : a7q (c4t n) (i : Int) = some i := by
 obtain ⟨j, hj⟩ := c9r (k := (i : Int)) (ks := c4t n) (List.mem_map.2 ⟨i, List.mem_range.2 h, rfl⟩)
 have := b6d hj
 simp only [c4t, List.getElem?_map] at this
 cases hr : (List.range n)[j]? with
 | none => rw [hr] at this; cases this
 | some k =>
  rw [hr] at this
  obtain ⟨q1, q2⟩ := List.getElem?_eq_some_iff.1 hr
  simp only [List.getElem_range] at q2
  simp only [Option.map_some, Option.some.injEq] at this
  have : j = i := by omega
  rw [hj, this]
theorem e6p (n : Nat) : a7q (c4t n) (n : Int) = none := b3d.2 fun h => by
 obtain ⟨k, h1, h2⟩ := List.mem_map.1 h
 rw [List.mem_range] at h1
 omega
theorem e3g (c : Bool) (vs : List Vi) (v : Vi) : c6h c (vs ++ [v]) = c6h c vs ++ [(.int .i64 (vs.length : Int), .agg (a4g c v))] := by
 simp [c6h, List.zipIdx_append]
theorem e3h {tt : TT} {et : TypeId} (h : vs[i]? = some v) : (∃ j kv, a7q (c4t vs.length) (i : Int) = some j ∧ (c6h c vs)[j]? = some (kv, .agg (a4g c v))) ∨ (a7q (c4t vs.length) (i : Int) = none ∧ ∃ S, tt et = some S ∧ AV.agg (a4g c v) = b8w S) :=
 .inl ⟨i, _, e6o (List.getElem?_eq_some_iff.1 h).1, f1p h⟩
theorem b4c (c : Bool) (vs : List Vi) : ∀ p ∈ c6h c vs, p.2.flatA = true := fun p hp => by
 obtain ⟨q, _, rfl⟩ := List.mem_map.1 hp; rfl
end
section
theorem e6q {α : Type} {l : List α} {i : Nat} {a : α} (h : l[i]? = some a) : l.set i a = l := by
 obtain ⟨h1, rfl⟩ := List.getElem?_eq_some_iff.1 h
 exact List.set_getElem_self h1
end
section
theorem c3q (c : Bool) (n : Nd) (f inc ver g : Int) (es : List Ev) : a1o Tryz.prog 70 [.agg (w6w c n), .pv (.int .i64 f), .pv (.int .i64 inc), .pv (.int .i64 ver), .pv (.int .i64 g), a1y c es] (.agg (w6w true (a4k n f inc ver g es))) := by
 refine b0q s3s (fn := Tryz.f70) (by kernel_rfl) (by kernel_rfl) rfl (outs := [.agg (w6w true (a4k n f inc ver g es))]) (by rfl) (a1d rfl) 12 ?_
 refine exR (z7z (id := 0) rfl rfl rfl (y7y (id := 1) y5y s5s rfl (x2x fun K1 hK1 => ?_)))
 refine exR (x5x rfl y5y rfl rfl rfl (x9x rfl rfl rfl (r6r c n) (a1k rfl (x8x rfl ?_ ?_))))<;>intro hc2<;>try simp at hc2
 ·have fX : ¬ u3u n := a0z (by simpa using hc2)
  refine exR (rlB y5y s5s ?_)
  refine x3x rfl rfl y5y rfl rfl rfl rfl (x6x ⟨.inr rfl, ?_⟩)
  (rw [f3g fX]; exact ⟨_, _, rfl, e1x⟩)
 have fK : u3u n := a1x.1 (by simpa using hc2)
 have fS := fK.1
 have fB := r8r fS
 have fV := fS.2.2.2.2.2.1
 have fQ := fS.2.2.2.2.2.2.1
 have fb := b9d fS
 refine x7x (hK1 _ _ (exR (x5x rfl y5y rfl rfl rfl ?_)))
 refine rlM [6, 7, 8] [_, _, _] (u1u c n fb) rfl rfl rfl ?_
 refine y7y (id := 2) y5y s5s rfl (x3x rfl rfl y5y rfl rfl rfl rfl (x2x fun K3 hK3 => ?_))
 refine exD (x1x 4 rfl rfl (z6z rfl rfl ?_ ?_))<;>intro hg4<;>try simp at hg4
 ·have fU : ¬ b1d n f inc ver g es := by (rintro ⟨m1, m2, m3, m4, m5, m6, m7, m8, m9⟩; (simp_all; done))
  refine x1x 32 rfl rfl ⟨by kernel_rfl, x8x rfl (fun hc37 => ?_) (fun hc37 => ?_)⟩
  rotate_left
  ·simp at hc37
  try simp at hc37
  refine exR (x5x rfl y5y rfl rfl rfl (x3x rfl rfl y5y rfl rfl rfl rfl (x6x ⟨.inr rfl, ?_⟩)))
  (rw [b7z fK fU]; exact ⟨_, _, rfl, b6l (n := n) rfl rfl rfl⟩)
 have fUp : n.up = true := hg4
 refine x4x rfl (z1z rfl rfl (x9x rfl rfl rfl (u8u ..) (x1x 3 rfl rfl (z6z rfl rfl ?_ ?_))))<;>intro h<;>try simp at h
 ·have fU : ¬ b1d n f inc ver g es := by (rintro ⟨m1, m2, m3, m4, m5, m6, m7, m8, m9⟩; omega)
  refine x1x 27 rfl rfl ⟨by kernel_rfl, x8x rfl (fun hc36 => ?_) (fun hc36 => ?_)⟩
  rotate_left
  ·simp at hc36
  try simp at hc36
  refine exR (x5x rfl y5y rfl rfl rfl (x3x rfl rfl y5y rfl rfl rfl rfl (x6x ⟨.inr rfl, ?_⟩)))
  (rw [b7z fK fU]; exact ⟨_, _, rfl, b6l (n := n) rfl rfl rfl⟩)
 refine x1x 6 rfl rfl (z6z rfl rfl ?_ ?_)<;>intro hg6<;>try simp at hg6
 ·have fU : ¬ b1d n f inc ver g es := by (rintro ⟨m1, m2, m3, m4, m5, m6, m7, m8, m9⟩; omega)
  refine x1x 21 rfl rfl ⟨by kernel_rfl, x8x rfl (fun hc35 => ?_) (fun hc35 => ?_)⟩
  rotate_left
  ·simp at hc35
  try simp at hc35
  refine exR (x5x rfl y5y rfl rfl rfl (x3x rfl rfl y5y rfl rfl rfl rfl (x6x ⟨.inr rfl, ?_⟩)))
  (rw [b7z fK fU]; exact ⟨_, _, rfl, b6l (n := n) rfl rfl rfl⟩)
 have f4 : ¬ f = n.id := hg6
 refine x1x 3 rfl rfl (z1z rfl rfl (rlB p0p a7w ?_))
 refine z1z rfl rfl (x9x rfl rfl rfl (b2o c ⟨inc, ver, es⟩) ?_)
 refine x1x 3 rfl rfl (z6z rfl rfl ?_ ?_)<;>intro hg7<;>try simp at hg7
 ·have fvi : ¬ d4y ⟨inc, ver, es⟩ := a0z (by simpa using hg7)
  have fU : ¬ b1d n f inc ver g es := by (rintro ⟨m1, m2, m3, m4, m5, m6, m7, m8, m9⟩; exact fvi ⟨⟨by show 0 ≤ inc; omega, m5.2⟩, m6, m8⟩)
  refine x1x 13 rfl rfl ⟨by kernel_rfl, x8x rfl (fun hc34 => ?_) (fun hc34 => ?_)⟩
  rotate_left
  ·simp at hc34
  try simp at hc34
  refine exR (x5x rfl y5y rfl rfl rfl (x3x rfl rfl y5y rfl rfl rfl rfl (x6x ⟨.inr rfl, ?_⟩)))
  (rw [b7z fK fU]; exact ⟨_, _, rfl, b6l (n := n) rfl rfl rfl⟩)
 have fvi : d4y ⟨inc, ver, es⟩ := a1x.1 (by simpa using hg7)
 have fv1 := fvi.1
 have fv2 := fvi.2.1
 have fv3 : a8b okE a3m es 100 = true := fvi.2.2
 dsimp only at fv1 fv2
 refine x1x 4 rfl rfl (z6z rfl rfl ?_ ?_)<;>intro h<;>try simp at h
 ·have fU : ¬ b1d n f inc ver g es := by (rintro ⟨m1, m2, m3, m4, m5, m6, m7, m8, m9⟩; omega)
  refine x1x 9 rfl rfl ⟨by kernel_rfl, x8x rfl (fun hc33 => ?_) (fun hc33 => ?_)⟩
  rotate_left
  ·simp at hc33
  try simp at hc33
  refine exR (x5x rfl y5y rfl rfl rfl (x3x rfl rfl y5y rfl rfl rfl rfl (x6x ⟨.inr rfl, ?_⟩)))
  (rw [b7z fK fU]; exact ⟨_, _, rfl, b6l (n := n) rfl rfl rfl⟩)
 refine x4x rfl (z1z rfl rfl (x9x rfl rfl rfl (u8u ..) (x1x 3 rfl rfl (z6z rfl rfl ?_ ?_))))<;>intro h<;>try simp at h
 ·have fU : ¬ b1d n f inc ver g es := by (rintro ⟨m1, m2, m3, m4, m5, m6, m7, m8, m9⟩; omega)
  refine x1x 4 rfl rfl ⟨by kernel_rfl, x8x rfl (fun hc32 => ?_) (fun hc32 => ?_)⟩
  rotate_left
  ·simp at hc32
  try simp at hc32
  refine exR (x5x rfl y5y rfl rfl rfl (x3x rfl rfl y5y rfl rfl rfl rfl (x6x ⟨.inr rfl, ?_⟩)))
  (rw [b7z fK fU]; exact ⟨_, _, rfl, b6l (n := n) rfl rfl rfl⟩)
 refine x1x 2 rfl rfl (z1z rfl rfl (x9x rfl rfl rfl (w5w ..) (x1x 2 rfl rfl ⟨by kernel_rfl, x8x rfl ?_ ?_⟩)))<;>intro h<;>try simp at h
 ·have fU : ¬ b1d n f inc ver g es := by (rintro ⟨m1, m2, m3, m4, m5, m6, m7, m8, m9⟩; omega)
  refine exR (x5x rfl y5y rfl rfl rfl (x3x rfl rfl y5y rfl rfl rfl rfl (x6x ⟨.inr rfl, ?_⟩)))
  (rw [b7z fK fU]; exact ⟨_, _, rfl, b6l (n := n) rfl rfl rfl⟩)
 refine x7x (hK3 _ _ (x2x fun K11 hK11 => ?_))
 refine exR (x0x rfl (y0y (p2p 5 rfl fun hlen => ?_)))
 refine z3z (ι := Nat) (fun i γ1 => [(14, pI (i : Int))]) (fun i γ1 => []) (fun i => i ≤ es.length ∧ c8y es (fun _ e => a1i e.to = n.id ∧ (e.from' = -1 ∨ a1i e.from' = f)) i) (fun i => es.length - i) (cK [1, 2, 3, 4, 5, 6, 12, 13] rfl) (hK [0, 1, 2, 3, 4, 5, 6, 7, 8, 9, 10, 11] rfl) 0 ⟨by omega, a2l⟩ [] cv hv rfl fun i γ1 hi => ?_
 obtain ⟨k1, k2⟩ := hi
 refine x2x fun K12 hK12 => ?_
 refine exA 2 rfl rfl (z2z rfl u9u rfl (v1v rfl rfl rfl (x8x rfl ?_ ?_)))<;>intro h<;>try simp at h
 ·obtain ⟨e, he⟩ := gE es i
  have heo : c0g e := of_decide_eq_true ((a0h fv3).2 e (List.mem_of_getElem? he))
  have heb := heo.2.2.1
  refine x7x (hK12 _ _ (x2x fun K14 hK14 => ?_))
  refine y0y (exD (x1x 2 rfl rfl (y8y rfl rfl u9u rfl u0u rfl he (x1x 2 rfl rfl (x9x rfl rfl rfl (a2n ..) (x1x 4 rfl rfl (z6z rfl rfl ?_ ?_)))))))<;>intro hg15<;>try simp at hg15
  ·have fE : ¬ (a1i e.to = n.id ∧ (e.from' = -1 ∨ a1i e.from' = f)) := fun q => (by have := q.1; omega)
   refine x1x 16 rfl rfl ⟨by kernel_rfl, x8x rfl (fun hc19 => ?_) (fun hc19 => ?_)⟩
   rotate_left
   ·simp at hc19
   try simp at hc19
   have fU : ¬ b1d n f inc ver g es := fun q => fE (q.2.2.2.2.2.2.2.2 e (List.mem_of_getElem? he))
   refine exR (x5x rfl y5y rfl rfl rfl (x3x rfl rfl y5y rfl rfl rfl rfl (x6x ⟨.inr rfl, ?_⟩)))
   (rw [b7z fK fU]; exact ⟨_, _, rfl, b6l (n := n) rfl rfl rfl⟩)
  have e1 : a1i e.to = n.id := hg15
  refine x1x 2 rfl rfl (z1z rfl rfl (y8y rfl rfl u9u rfl u0u rfl he (x1x 4 rfl rfl (z6z rfl rfl ?_ ?_))))<;>intro h<;>try simp at h
  ·have hE : a1i e.to = n.id ∧ (e.from' = -1 ∨ a1i e.from' = f) := ⟨e1, .inl (by omega)⟩
   refine x1x 9 rfl rfl ⟨by kernel_rfl, x8x rfl (fun hc18 => ?_) (fun hc18 => ?_)⟩
   ·simp at hc18
   try simp at hc18
   refine x7x (hK14 _ _ (exG (x4x rfl (p7p rfl rfl rfl (x0x rfl ?_)))))
   exact ⟨i + 1, ⟨⟨by omega, a0u k2 he hE⟩, by omega⟩, [], (Cov.cons' (t := 14) rfl (by rw [u2u (by omega) (by omega)]; rfl) Cov.nil), cv, hv, hv, rfl⟩
  refine x1x 2 rfl rfl (z1z rfl rfl (y8y rfl rfl u9u rfl u0u rfl he (x1x 2 rfl rfl (z1z rfl rfl (x9x rfl rfl rfl (a2n ..) (x1x 4 rfl rfl ⟨by kernel_rfl, y2y rfl ?_ ?_⟩))))))<;>intro hc17<;>try simp at hc17
  ·have hE : a1i e.to = n.id ∧ (e.from' = -1 ∨ a1i e.from' = f) := ⟨e1, .inr hc17⟩
   refine x7x (hK14 _ _ (exG (x4x rfl (p7p rfl rfl rfl (x0x rfl ?_)))))
   exact ⟨i + 1, ⟨⟨by omega, a0u k2 he hE⟩, by omega⟩, [], (Cov.cons' (t := 14) rfl (by rw [u2u (by omega) (by omega)]; rfl) Cov.nil), cv, hv, hv, rfl⟩
  have fE : ¬ (a1i e.to = n.id ∧ (e.from' = -1 ∨ a1i e.from' = f)) := by (rintro ⟨q1, q2 | q2⟩ <;> omega)
  have fU : ¬ b1d n f inc ver g es := fun q => fE (q.2.2.2.2.2.2.2.2 e (List.mem_of_getElem? he))
  refine exR (x5x rfl y5y rfl rfl rfl (x3x rfl rfl y5y rfl rfl rfl rfl (x6x ⟨.inr rfl, ?_⟩)))
  (rw [b7z fK fU]; exact ⟨_, _, rfl, b6l (n := n) rfl rfl rfl⟩)
 have hall := a4b k2 (by omega)
 have fH : b1d n f inc ver g es := ⟨fUp, by omega, by omega, f4, by omega, by omega, by omega, fv3, fun e he => by obtain ⟨i, hi⟩ := List.getElem?_of_mem he; exact hall i e hi⟩
 obtain ⟨k, rfl⟩ : ∃ k : Nat, f = (k : Int) := ⟨f.toNat, by have := fH.2.2.1; omega⟩
 have hk3 : k < 3 := by have := fH.2.2.1; omega
 obtain ⟨kn, hkn⟩ := gE n.known k
 obtain ⟨v, hv⟩ := gE n.views k
 have hes : es.length ≤ 100 := by have := (a0h fH.2.2.2.2.2.2.2.1).1; omega
 obtain ⟨M, hM⟩ : ∃ M, M = b6k n k inc ver g es := ⟨_, rfl⟩
 have hv9 : n.version ≤ 9998 := by have := fH.2.1; omega
 have hv0 := fS.1.2.2.2.2.1.1
 refine z4z (hK11 _ _ ?_)
 refine a0k (ι := Unit) (fun _i γ2 => []) (fun _i γ2 => [(8, ((0 + 1), .row 3 1 ((n.known.set k (max kn g)).map a6c)))]) (fun _i => True) (cK [1, 2, 3, 5, 6, 12, 13] rfl) (hK [0, 1, 2, 3, 4, 5, 6, 7, 9, 10, 11] rfl) ?_ fun _i γ2 hi => ?_
 ·refine exA 4 rfl rfl ?_
  refine v2v (j := k) rfl rfl q1q rfl q5q rfl rfl (v5v hkn) ?_
  refine a1h rfl q5q rfl hkn rfl (v1v rfl rfl rfl (y2y rfl ?_ ?_))<;>intro h<;>try simp at h
  ·have hmx : max kn g = kn := by omega
   refine x7x ?_
   exact ⟨(), trivial, [], Cov.nil, (y3y 1 rfl (y3y 2 rfl (y3y 3 rfl (y3y 5 rfl (y3y 6 rfl (y3y 12 rfl (y3y 13 rfl Cov.nil))))))), (HE.row rfl (by rw [hmx, e6q hkn]) HE.nil), (z0z 0 rfl (z0z 1 rfl (z0z 2 rfl (z0z 3 rfl (z0z 4 rfl (z0z 5 rfl (z0z 6 rfl (z0z 7 rfl (z0z 9 rfl (z0z 10 rfl (z0z 11 rfl HE.nil))))))))))), rfl⟩
  have hmx : max kn g = g := by omega
  refine exG (x1x 4 rfl rfl ?_)
  refine v2v (j := k) rfl rfl q1q rfl q5q rfl rfl (v5v hkn) ?_
  refine b4n (el' := g) rfl rfl q5q rfl rfl rfl hkn rfl (by omega) (.val rfl rfl .nil) rfl rfl ?_
  exact ⟨(), trivial, [], Cov.nil, (y3y 1 rfl (y3y 2 rfl (y3y 3 rfl (y3y 5 rfl (y3y 6 rfl (y3y 12 rfl (y3y 13 rfl Cov.nil))))))), (HE.row rfl (by (rw [hmx]; done)) HE.nil), (z0z 0 rfl (z0z 1 rfl (z0z 2 rfl (z0z 3 rfl (z0z 4 rfl (z0z 5 rfl (z0z 6 rfl (z0z 7 rfl (z0z 9 rfl (z0z 10 rfl (z0z 11 rfl HE.nil))))))))))), rfl⟩
 ·try dsimp only [b3s, b3t]
  refine exA 3 rfl rfl (y8y rfl rfl s6s rfl p0p rfl hv (u4u rfl p0p rfl rfl (y7y (id := 3) p0p a7w rfl (x3x rfl rfl p0p rfl rfl rfl rfl ?_))))
  refine a0k (ι := Unit) (fun _i γ3 => []) (fun _i γ3 => [(2, ((0 + 1), .box 65 [pI M.id, .pv (.bool M.up), pI M.inc, pI M.g, .ref 6 (0 + 1), a1y true M.kept, a0p true M.outs, pI M.led, pI M.version, .ref 7 (0 + 1), .ref 8 (0 + 1), pI M.round, pI M.low])), (6, ((0 + 1), .row 44 5 ((M.lanes).map (a0f true)))), (7, ((0 + 1), .row 190 3 ((M.views).map (a4g true)))), (8, ((0 + 1), .row 3 1 (M.known.map a6c))), (4, ((γ3 4), .dead)), (5, ((γ3 5), .dead))]) (fun _i => True) (cK [6, 12, 13] rfl) (hK [0, 1, 3, 9, 10, 11] rfl) ?_ fun _i γ3 hi => ?_
  ·refine exA 5 rfl rfl (z6z rfl rfl ?_ ?_)<;>intro h<;>try simp at h
   ·refine x1x 10 rfl rfl (x8x rfl (fun hc27 => ?_) (fun hc27 => ?_))
    rotate_left
    ·simp at hc27
    try simp at hc27
    have hL : c7y v inc ver := .inl (by omega)
    refine exA 5 rfl rfl (x9x rfl rfl rfl (b2p c v.events es n.g) (x0x rfl (x2x fun K28 hK28 => ?_)))
    refine exA 4 rfl rfl (y2y rfl ?_ ?_)<;>intro h<;>try simp at h
    ·have hlow : n.low = M.low := by rw [hM, a2y hv hkn hL]; show _ = chg n.g v.events (chg n.g es n.low v.events) es; rw [c0x n.g v.events es (m := n.low) (by have := fS.1.2.2.2.2.2.2; omega)]; omega
     refine x7x (hK28 _ _ (exH (x1x 5 rfl rfl (z8z (id := 4) u9u rfl u0u rfl (x4x rfl ?_)))))
     refine a2o s3s (zs := es.map v4v) rfl rfl u9u rfl u0u rfl rfl rfl (w3w (fun _ => rfl) _) rfl (by simp only [a0w, T56]; omega) (Le.ow_map _ (fun _ => rfl) (fun _ => rfl)) ?_
     refine rlB p0p a7w ?_
     refine v2v (j := k) rfl rfl s6s rfl p0p rfl rfl (v5v hv) ?_
     refine q9q (el' := ⟨inc, ver, es⟩) rfl rfl p0p rfl rfl rfl hv rfl (a0j rfl) rfl rfl ?_
     refine ⟨by kernel_rfl, ?_⟩
     exact ⟨(), trivial, [0, 0, 0, 0, _, _], Cov.nil, (y3y 6 rfl (y3y 12 rfl (y3y 13 rfl Cov.nil))), (HE.box rfl (by rw [← hlow]; (rw [hM, a2y hv hkn hL] <;> rfl)) (HE.row rfl (by (rw [hM, a2y hv hkn hL] <;> rfl)) (HE.row rfl (by (rw [hM, a2y hv hkn hL] <;> rfl)) (HE.row rfl (by (rw [hM, a2y hv hkn hL] <;> rfl)) (HE.kill rfl (HE.kill rfl HE.nil)))))), (z0z 0 rfl (z0z 1 rfl (z0z 3 rfl (z0z 9 rfl (z0z 10 rfl (z0z 11 rfl HE.nil)))))), rfl⟩
    have hlow : chg n.g v.events (chg n.g es 41 v.events) es = M.low := by rw [hM, a2y hv hkn hL]; show _ = chg n.g v.events (chg n.g es n.low v.events) es; rw [c0x n.g v.events es (m := n.low) (by have := fS.1.2.2.2.2.2.2; omega)]; omega
    refine exG (x1x 2 rfl rfl (y9y rfl rfl q5q rfl rfl rfl rfl rfl (by simp only [a0y]; rfl) ?_))
    refine hK28 _ _ (exH (x1x 5 rfl rfl (z8z (id := 4) u9u rfl u0u rfl (x4x rfl ?_))))
    refine a2o s3s (zs := es.map v4v) rfl rfl u9u rfl u0u rfl rfl rfl (w3w (fun _ => rfl) _) rfl (by simp only [a0w, T56]; omega) (Le.ow_map _ (fun _ => rfl) (fun _ => rfl)) ?_
    refine rlB p0p a7w ?_
    refine v2v (j := k) rfl rfl s6s rfl p0p rfl rfl (v5v hv) ?_
    refine q9q (el' := ⟨inc, ver, es⟩) rfl rfl p0p rfl rfl rfl hv rfl (a0j rfl) rfl rfl ?_
    refine ⟨by kernel_rfl, ?_⟩
    exact ⟨(), trivial, [0, 0, 0, 0, _, _], Cov.nil, (y3y 6 rfl (y3y 12 rfl (y3y 13 rfl Cov.nil))), (HE.box rfl (by rw [← hlow]; (rw [hM, a2y hv hkn hL] <;> rfl)) (HE.row rfl (by (rw [hM, a2y hv hkn hL] <;> rfl)) (HE.row rfl (by (rw [hM, a2y hv hkn hL] <;> rfl)) (HE.row rfl (by (rw [hM, a2y hv hkn hL] <;> rfl)) (HE.kill rfl (HE.kill rfl HE.nil)))))), (z0z 0 rfl (z0z 1 rfl (z0z 3 rfl (z0z 9 rfl (z0z 10 rfl (z0z 11 rfl HE.nil)))))), rfl⟩
   refine x1x 5 rfl rfl (z6z rfl rfl ?_ ?_)<;>intro h<;>try simp at h
   ·refine x1x 5 rfl rfl (x8x rfl (fun hc26 => ?_) (fun hc26 => ?_))
    ·simp at hc26
    try simp at hc26
    have hL : ¬ c7y v inc ver := by rintro (q | ⟨q1, q2⟩) <;> omega
    have hlow : n.low = M.low := by rw [hM, a9y hv hkn hL]
    refine x7x ?_
    exact ⟨(), trivial, [0, 0, 0, 0, _, _], Cov.nil, (y3y 6 rfl (y3y 12 rfl (y3y 13 rfl Cov.nil))), (HE.box rfl (by rw [← hlow]; (rw [hM, a9y hv hkn hL] <;> rfl)) (HE.row rfl (by (rw [hM, a9y hv hkn hL] <;> rfl)) (HE.row rfl (by (rw [hM, a9y hv hkn hL] <;> rfl)) (HE.row rfl (by (rw [hM, a9y hv hkn hL] <;> rfl)) (HE.kill rfl (HE.kill rfl HE.nil)))))), (z0z 0 rfl (z0z 1 rfl (z0z 3 rfl (z0z 9 rfl (z0z 10 rfl (z0z 11 rfl HE.nil)))))), rfl⟩
   refine x1x 6 rfl rfl (y2y rfl ?_ ?_)<;>intro h<;>try simp at h
   ·have hL : ¬ c7y v inc ver := by rintro (q | ⟨q1, q2⟩) <;> omega
    have hlow : n.low = M.low := by rw [hM, a9y hv hkn hL]
    refine x7x ?_
    exact ⟨(), trivial, [0, 0, 0, 0, _, _], Cov.nil, (y3y 6 rfl (y3y 12 rfl (y3y 13 rfl Cov.nil))), (HE.box rfl (by rw [← hlow]; (rw [hM, a9y hv hkn hL] <;> rfl)) (HE.row rfl (by (rw [hM, a9y hv hkn hL] <;> rfl)) (HE.row rfl (by (rw [hM, a9y hv hkn hL] <;> rfl)) (HE.row rfl (by (rw [hM, a9y hv hkn hL] <;> rfl)) (HE.kill rfl (HE.kill rfl HE.nil)))))), (z0z 0 rfl (z0z 1 rfl (z0z 3 rfl (z0z 9 rfl (z0z 10 rfl (z0z 11 rfl HE.nil)))))), rfl⟩
   have hL : c7y v inc ver := .inr ⟨by omega, by omega⟩
   refine exA 5 rfl rfl (x9x rfl rfl rfl (b2p c v.events es n.g) (x0x rfl (x2x fun K24 hK24 => ?_)))
   refine exA 4 rfl rfl (y2y rfl ?_ ?_)<;>intro h<;>try simp at h
   ·have hlow : n.low = M.low := by rw [hM, a2y hv hkn hL]; show _ = chg n.g v.events (chg n.g es n.low v.events) es; rw [c0x n.g v.events es (m := n.low) (by have := fS.1.2.2.2.2.2.2; omega)]; omega
    refine x7x (hK24 _ _ (exH (y1y rfl y5y rfl rfl s6s rfl rfl (v3v rfl s6s rfl rfl (x4x rfl (x4x rfl (x4x rfl (z8z (id := 4) u9u rfl u0u rfl (x4x rfl ?_)))))))))
    refine a2o s3s (zs := es.map v4v) rfl rfl u9u rfl u0u rfl rfl rfl (w3w (fun _ => rfl) _) rfl (by simp only [a0w, T56]; omega) (Le.ow_map _ (fun _ => rfl) (fun _ => rfl)) ?_
    refine rlB p0p a7w ?_
    refine v2v (j := k) rfl rfl s6s rfl p0p rfl rfl (v5v hv) ?_
    refine q9q (el' := ⟨inc, ver, es⟩) rfl rfl p0p rfl rfl rfl hv rfl (a0j rfl) rfl rfl ?_
    refine ⟨by kernel_rfl, ?_⟩
    exact ⟨(), trivial, [0, 0, 0, 0, _, _], Cov.nil, (y3y 6 rfl (y3y 12 rfl (y3y 13 rfl Cov.nil))), (HE.box rfl (by rw [← hlow]; (rw [hM, a2y hv hkn hL] <;> rfl)) (HE.row rfl (by (rw [hM, a2y hv hkn hL] <;> rfl)) (HE.row rfl (by (rw [hM, a2y hv hkn hL] <;> rfl)) (HE.row rfl (by (rw [hM, a2y hv hkn hL] <;> rfl)) (HE.kill rfl (HE.kill rfl HE.nil)))))), (z0z 0 rfl (z0z 1 rfl (z0z 3 rfl (z0z 9 rfl (z0z 10 rfl (z0z 11 rfl HE.nil)))))), rfl⟩
   have hlow : chg n.g v.events (chg n.g es 41 v.events) es = M.low := by rw [hM, a2y hv hkn hL]; show _ = chg n.g v.events (chg n.g es n.low v.events) es; rw [c0x n.g v.events es (m := n.low) (by have := fS.1.2.2.2.2.2.2; omega)]; omega
   refine exG (x1x 2 rfl rfl (y9y rfl rfl q5q rfl rfl rfl rfl rfl (by simp only [a0y]; rfl) ?_))
   refine hK24 _ _ (exH (y1y rfl y5y rfl rfl s6s rfl rfl (v3v rfl s6s rfl rfl (x4x rfl (x4x rfl (x4x rfl (z8z (id := 4) u9u rfl u0u rfl (x4x rfl ?_))))))))
   refine a2o s3s (zs := es.map v4v) rfl rfl u9u rfl u0u rfl rfl rfl (w3w (fun _ => rfl) _) rfl (by simp only [a0w, T56]; omega) (Le.ow_map _ (fun _ => rfl) (fun _ => rfl)) ?_
   refine rlB p0p a7w ?_
   refine v2v (j := k) rfl rfl s6s rfl p0p rfl rfl (v5v hv) ?_
   refine q9q (el' := ⟨inc, ver, es⟩) rfl rfl p0p rfl rfl rfl hv rfl (a0j rfl) rfl rfl ?_
   refine ⟨by kernel_rfl, ?_⟩
   exact ⟨(), trivial, [0, 0, 0, 0, _, _], Cov.nil, (y3y 6 rfl (y3y 12 rfl (y3y 13 rfl Cov.nil))), (HE.box rfl (by rw [← hlow]; (rw [hM, a2y hv hkn hL] <;> rfl)) (HE.row rfl (by (rw [hM, a2y hv hkn hL] <;> rfl)) (HE.row rfl (by (rw [hM, a2y hv hkn hL] <;> rfl)) (HE.row rfl (by (rw [hM, a2y hv hkn hL] <;> rfl)) (HE.kill rfl (HE.kill rfl HE.nil)))))), (z0z 0 rfl (z0z 1 rfl (z0z 3 rfl (z0z 9 rfl (z0z 10 rfl (z0z 11 rfl HE.nil)))))), rfl⟩
  ·try dsimp only [b3s, b3t]
   obtain ⟨w1, w2, w3⟩ := d5m n k inc ver g es
   rw [← hM] at w1 w2 w3
   have hwM : wk M := by rw [hM]; exact e5s (e5p fS) hes
   have hpcM : M.lanes.length = (a0b M.id 4).length := by rw [w1, w3]; exact fS.2.2.2.2.1
   have hwA : wk (nl M (a0o M M.lanes)) := c7x _ (Nat.le_refl _) hwM
   have hLA : (a0o M M.lanes).length ≤ 4 := hwA.1
   refine exD (x1x 2 rfl rfl ?_)
   refine rlM [6, 7, 8] [_, _, _] (b4a M hwM) rfl rfl rfl ?_
   refine rlM [6, 7, 8] [_, _, _] (b2q c n (nl M (a0o M M.lanes)) (e5p fS) hwA w1.symm ⟨by omega, by omega⟩) rfl rfl rfl ?_
   refine x3x rfl rfl y5y rfl rfl rfl rfl ⟨by kernel_rfl, x2x fun K30 hK30 => ?_⟩
   refine w9w (b := b8a true (a9x n M).lanes) 2 4 rfl rfl rfl (.ref rfl (Le.ow_map _ (fun _ => rfl) (fun _ => rfl)) .nil) rfl rfl rfl rfl ?_
   refine w9w (b := b9h true (a9x n M).views) 2 9 rfl rfl rfl (.ref rfl (Le.ow_map _ (fun _ => rfl) (fun _ => rfl)) .nil) rfl rfl rfl rfl ?_
   refine w9w (b := a4l true (a9x n M).known) 2 10 rfl rfl rfl (.ref rfl (Le.ow_map _ (fun _ => rfl) (fun _ => rfl)) .nil) rfl rfl rfl rfl ?_
   refine exR (x5x rfl y5y rfl rfl rfl (x9x rfl rfl rfl (r6r true (a9x n M)) ?_))
   refine a1k rfl (x8x rfl ?_ ?_)<;>intro hc31<;>try simp at hc31
   ·have fX2 : ¬ u3u (a9x n M) := a0z (by simpa using hc31)
    refine exR (x5x rfl y5y rfl rfl rfl ?_)
    refine rlM [9, 10, 11] [_, _, _] (u1u c n fb) rfl rfl rfl ?_
    refine x3x rfl rfl y5y rfl rfl rfl rfl (x6x ⟨.inr rfl, ?_⟩)
    (rw [e7w fK fH, ← hM, c2u fX2]; exact ⟨_, _, rfl, b6l (n := n) rfl rfl rfl⟩)
   have fK2 : u3u (a9x n M) := a1x.1 (by simpa using hc31)
   have fb2 := b9d fK2.1
   refine x7x (hK30 _ _ (exR (x5x rfl y5y rfl rfl rfl ?_)))
   refine rlM [9, 10, 11] [_, _, _] (u1u true (a9x n M) fb2) rfl rfl rfl ?_
   refine x3x rfl rfl y5y rfl rfl rfl rfl (x6x ⟨.inr rfl, ?_⟩)
   (rw [e7w fK fH, ← hM, c2t fK2]; exact ⟨_, _, rfl, b6l (n := a9x n M) rfl rfl rfl⟩)
end
end Go.Proofs.YtlgknoapdbpojaaGreat.Am
