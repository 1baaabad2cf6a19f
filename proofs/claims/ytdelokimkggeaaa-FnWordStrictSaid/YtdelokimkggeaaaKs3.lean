/- Part 3 of the texts that the proof of LawFnWordStrict leans on, merged by program. -/
import Derived.Test.YtdelokimkggeaaaKs2
set_option linter.unusedVariables false
set_option linter.unusedSimpArgs false
set_option maxHeartbeats 4000000
set_option autoImplicit true
set_option relaxedAutoImplicit true
namespace Go.Proofs.Ytdelokimkggeaaa.Am
open Go Go.RowKit
section
theorem a4n (x : Int) : a2g Try.prog 89 [.pv (.int .i64 x)] (.pv (.bool (false))) := by
 refine u9u x9x (fn := Try.f89) (by kernel_rfl) (by kernel_rfl) rfl (outs := [.pv (.bool (false))]) (by rfl) (u3u rfl) 0 ?_
 refine x7x x9x (by rfl) ?_
 refine x2x rfl ?_
 refine x7x x9x (by rfl) ?_
 refine x0x rfl ?_
 refine x0x rfl ?_
 refine z0z rfl rfl rfl ?_
 refine x2x rfl ?_
 refine y6y ⟨.inr rfl, ?_⟩
 refine z9z rfl ?_ rfl
 simp
theorem a8k (x y : Int) : a2g Try.prog 88 [.pv (.int .i64 x), .pv (.int .i64 y)] (.pv (.int .i64 (if x < y then -1 else if y < x then 1 else 0))) := by
 refine u9u x9x (fn := Try.f88) (by kernel_rfl) (by kernel_rfl) rfl (outs := [.pv (.int .i64 (if x < y then -1 else if y < x then 1 else 0))]) (by rfl) (u3u rfl) 0 ?_
 refine x7x x9x (by rfl) ?_
 refine x2x rfl ?_
 refine x7x x9x (by rfl) ?_
 refine x0x rfl ?_
 refine z7z rfl rfl rfl (a4n ..) ?_
 refine x2x rfl ?_
 refine x7x x9x (by rfl) ?_
 refine x0x rfl ?_
 refine z7z rfl rfl rfl (a4n ..) ?_
 refine x2x rfl ?_
 refine x8x fun K1 hK1 => ?_
 refine x7x x9x (by rfl) ?_
 refine x0x rfl ?_
 refine y1y rfl (fun hc2 => ?_) (fun hc2 => ?_)
 ·simp at hc2
 try simp at hc2
 refine y8y ?_
 refine hK1 _ _ ?_
 clear hK1 K1
 refine x8x fun K3 hK3 => ?_
 refine x7x x9x (by rfl) ?_
 refine x0x rfl ?_
 refine y1y rfl (fun hc4 => ?_) (fun hc4 => ?_)
 ·simp at hc4
 try simp at hc4
 refine y8y ?_
 refine hK3 _ _ ?_
 clear hK3 K3
 refine x8x fun K5 hK5 => ?_
 refine x7x x9x (by rfl) ?_
 refine x0x rfl ?_
 refine x0x rfl ?_
 refine z0z rfl rfl rfl ?_
 refine y1y rfl (fun hc6 => ?_) (fun hc6 => ?_)
 ·try simp at hc6
  refine x7x x9x (by rfl) ?_
  refine x2x rfl ?_
  refine y6y ⟨.inr rfl, ?_⟩
  clear hK5 K5
  refine z9z rfl ?_ rfl
  simp only [List.cons.injEq, and_true, AV.pv.injEq, Value.int.injEq, true_and]
  split <;> (try split) <;> omega
 try simp at hc6
 refine y8y ?_
 refine hK5 _ _ ?_
 clear hK5 K5
 refine x8x fun K7 hK7 => ?_
 refine x7x x9x (by rfl) ?_
 refine x0x rfl ?_
 refine x0x rfl ?_
 refine z0z rfl rfl rfl ?_
 refine y1y rfl (fun hc8 => ?_) (fun hc8 => ?_)
 ·try simp at hc8
  refine x7x x9x (by rfl) ?_
  refine x2x rfl ?_
  refine y6y ⟨.inr rfl, ?_⟩
  clear hK7 K7
  refine z9z rfl ?_ rfl
  simp only [List.cons.injEq, and_true, AV.pv.injEq, Value.int.injEq, true_and]
  split <;> (try split) <;> omega
 try simp at hc8
 refine y8y ?_
 refine hK7 _ _ ?_
 clear hK7 K7
 refine x7x x9x (by rfl) ?_
 refine x2x rfl ?_
 refine y6y ⟨.inr rfl, ?_⟩
 refine z9z rfl ?_ rfl
 simp only [List.cons.injEq, and_true, AV.pv.injEq, Value.int.injEq, true_and]
 split <;> (try split) <;> omega
theorem a1e (u v : List Int) (hab : u.length = v.length) (hn : u.length ≤ 1000000) (ty : Nat) : Meth Try.prog 84 2 [0, 1] [.bsl 0 0 0 u.length, .bsl 1 0 0 u.length] [(0, (0, .box ty (u.map pI))), (1, (0, .box ty (v.map pI)))] (.pv (.int .i64 (c1y u v))) [] := by
 refine p6p x9x (fn := Try.f84) (by kernel_rfl) (by kernel_rfl) rfl (O0 := [.pv (.int .i64 (c1y u v))]) 2 0 (u3u rfl) (by rfl) (by exact .box (b4t _ _) (.box (b4t _ _) .nil)) (by exact .nil) (by rfl) fun γ => ?_
 have hI : List.map (a1h idf γ) [(0, (0, .box ty (u.map pI))), (1, (0, .box ty (v.map pI)))] = [(0, ((γ 0), .box ty (u.map pI))), (1, ((γ 1), .box ty (v.map pI)))] := by simp only [List.map_cons, List.map_nil, a1h, inE, c2o]; rfl
 rw [hI]
 show Ex Try.prog _ _ [(0, .bsl 0 (γ 0) 0 u.length), (1, .bsl 1 (γ 1) 0 u.length)] [(0, ((γ 0), .box ty (u.map pI))), (1, ((γ 1), .box ty (v.map pI)))] _
 refine x7x x9x (by rfl) ?_
 refine x2x rfl ?_
 refine x8x fun K1 hK1 => ?_
 refine x7x x9x (by rfl) ?_
 refine x0x rfl ?_
 refine b4p rfl u1u rfl rfl (by intro s hs; cases hs) rfl ?_
 refine x0x rfl ?_
 refine y7y ?_
 refine v9v (ι := Nat) (fun i γ1 => [(11, .pv (.int .i64 (i : Int)))]) (fun i γ1 => []) (fun i => i ≤ u.length ∧ c1y u v = c1y (u.drop i) (v.drop i)) (fun i => u.length - i) (x5x 0 rfl (x5x 1 rfl (x5x 9 rfl (x5x 10 rfl Cov.nil)))) (z2z 0 rfl (z2z 1 rfl HE.nil)) 0 ⟨by omega, rfl⟩ [] (x5x 11 rfl Cov.nil) HE.nil rfl fun i γ1 hi => ?_
 try dsimp only [List.cons_append, List.nil_append]
 obtain ⟨h1, h2⟩ := hi
 refine x7x x9x (by rfl) ?_
 refine z0z rfl rfl rfl ?_
 refine x8x fun K2 hK2 => ?_
 refine y1y rfl (fun hc3 => ?_) (fun hc3 => ?_)
 rotate_left
 ·try simp at hc3
  refine v7v ?_
  refine hK1 _ _ ?_
  clear hK2 K2 hK1 K1
  refine x8x fun K8 hK8 => ?_
  refine x7x x9x (by rfl) ?_
  refine x0x rfl ?_
  refine b4p rfl u1u rfl rfl (by intro s hs; cases hs) rfl ?_
  refine x0x rfl ?_
  refine b4p rfl u1u rfl rfl (by intro s hs; cases hs) rfl ?_
  refine z0z rfl rfl rfl ?_
  refine y1y rfl (fun hc9 => ?_) (fun hc9 => ?_)
  ·simp at hc9
  try simp at hc9
  refine y8y ?_
  refine hK8 _ _ ?_
  clear hK8 K8
  refine x7x x9x (by rfl) ?_
  refine x2x rfl ?_
  refine y6y ?_
  exact ⟨.inr rfl, [γ 0, γ 1], rfl, congrArg (fun z => some [AV.pv (.int .i64 z)]) (by rw [h2, List.drop_of_length_le (by omega), List.drop_of_length_le (by omega)]; rfl), HE.cast hI (HE.same rfl (HE.same rfl HE.nil))⟩
 try simp at hc3
 obtain ⟨a, ha1⟩ : ∃ a, u[i]? = some a := s8s (by omega)
 obtain ⟨b, hb1⟩ : ∃ b, v[i]? = some b := s8s (by omega)
 refine y8y ?_
 refine hK2 _ _ ?_
 clear hK2 K2
 refine x8x fun K4 hK4 => ?_
 refine y7y ?_
 refine x7x x9x (by rfl) ?_
 refine x0x rfl ?_
 refine c0j x9x rfl rfl u1u rfl y5y rfl (by omega) ?_
 refine x3x rfl y5y rfl (b7l rfl ha1) ?_
 refine x2x rfl ?_
 refine x2x rfl ?_
 refine x8x fun K5 hK5 => ?_
 refine x7x x9x (by rfl) ?_
 refine x0x rfl ?_
 refine x0x rfl ?_
 refine b4p rfl u1u rfl rfl (by intro s hs; cases hs) rfl ?_
 refine z0z rfl rfl rfl ?_
 refine y1y rfl (fun hc6 => ?_) (fun hc6 => ?_)
 ·try simp at hc6
  omega
 try simp at hc6
 refine y8y ?_
 refine hK5 _ _ ?_
 clear hK5 K5
 refine x7x x9x (by rfl) ?_
 refine x0x rfl ?_
 refine x0x rfl ?_
 refine c0j x9x rfl rfl u1u rfl y5y rfl (by omega) ?_
 refine x3x rfl y5y rfl (b7l rfl hb1) ?_
 refine x2x rfl ?_
 refine x7x x9x (by rfl) ?_
 refine x0x rfl ?_
 refine x0x rfl ?_
 refine z7z rfl rfl rfl (a8k ..) ?_
 refine x2x rfl ?_
 refine x7x x9x (by rfl) ?_
 refine x0x rfl ?_
 refine z0z rfl rfl rfl ?_
 refine y1y rfl (fun hc7 => ?_) (fun hc7 => ?_)
 ·try simp at hc7
  have hz := hc7
  refine x7x x9x (by rfl) ?_
  refine x0x rfl ?_
  refine x2x rfl ?_
  refine y6y ?_
  exact ⟨.inr rfl, [γ 0, γ 1], rfl, congrArg (fun z => some [AV.pv (.int .i64 z)]) (by rw [h2, b5a ha1 hb1]; exact (c7f hz).symm), HE.cast hI (HE.same rfl (HE.same rfl HE.nil))⟩
 try simp at hc7
 have hz := hc7
 refine y8y ?_
 refine hK4 _ _ ?_
 clear hK4 K4
 refine y0y x9x (by rfl) ?_
 refine a0j rfl rfl rfl ?_
 refine x0x rfl ?_
 exact ⟨i + 1, ⟨⟨by omega, by rw [h2, b5a ha1 hb1, c7g hz]⟩, by omega⟩, [], (Cov.cons' (t := 11) rfl (by rw [w0w (by omega) (by omega)]; rfl) Cov.nil), (x5x 0 rfl (x5x 1 rfl (x5x 9 rfl (x5x 10 rfl Cov.nil)))), HE.nil, (z2z 0 rfl (z2z 1 rfl HE.nil)), rfl⟩
theorem a4o (e : Ev) : a2g Try.prog 71 [.agg (a0i e)] (.agg (a0i e)) := by
 refine u9u x9x (fn := Try.f71) (by kernel_rfl) (by kernel_rfl) rfl (outs := [.agg (a0i e)]) (by rfl) (u3u rfl) 2 ?_
 refine x7x x9x (by rfl) ?_
 refine r5r (id := 0) rfl rfl rfl ?_
 refine q0q (id := 1) a1g c2l rfl ?_
 refine x7x x9x (by rfl) ?_
 refine x1x rfl v1v rfl rfl y5y rfl rfl ?_
 refine x3x rfl y5y rfl rfl ?_
 refine x1x rfl v1v rfl rfl y5y rfl rfl ?_
 refine x3x rfl y5y rfl rfl ?_
 refine x1x rfl v1v rfl rfl y5y rfl rfl ?_
 refine x3x rfl y5y rfl rfl ?_
 refine x1x rfl v1v rfl rfl y5y rfl rfl ?_
 refine x3x rfl y5y rfl rfl ?_
 refine x1x rfl v1v rfl rfl y5y rfl rfl ?_
 refine x3x rfl y5y rfl rfl ?_
 refine x1x rfl v1v rfl rfl y5y rfl rfl ?_
 refine x3x rfl y5y rfl rfl ?_
 refine x1x rfl v1v rfl rfl y5y rfl rfl ?_
 refine x3x rfl y5y rfl rfl ?_
 refine a6h x9x a1g rfl y5y c2l rfl (by simp only [pI, y5y, a8h, List.range, List.range.loop, List.map_cons, List.map_nil, a0v, p2p, AV.okc, AV.one, Value.oneCell', T3, T4, List.getElem?_cons_zero, List.getElem?_cons_succ, List.take_succ_cons, List.take_zero, List.drop_succ_cons, List.drop_zero, List.cons_append, List.nil_append, List.length_cons, List.length_nil, if_true, and_self, Nat.reduceAdd, Nat.reduceMul, Nat.reduceLeDiff]; rfl) ?_
 refine u2u rfl rfl a1g rfl rfl rfl rfl ?_
 refine y6y ⟨.inr rfl, ?_⟩
 exact c0f rfl rfl rfl rfl
theorem a4p (e : Ev) : a2g Try.prog 63 [.agg (a0i e)] (.agg (a0i e)) := by
 refine u9u x9x (fn := Try.f63) (by kernel_rfl) (by kernel_rfl) rfl (outs := [.agg (a0i e)]) (by rfl) (u3u rfl) 2 ?_
 refine x7x x9x (by rfl) ?_
 refine r5r (id := 0) rfl rfl rfl ?_
 refine q0q (id := 1) v1v b2r rfl ?_
 refine x7x x9x (by rfl) ?_
 refine a0c x9x (j := 0) rfl rfl a1g rfl y5y (by decide) rfl ?_
 refine x3x rfl y5y rfl rfl ?_
 refine a0c x9x (j := 1) rfl rfl a1g rfl y5y (by decide) rfl ?_
 refine x3x rfl y5y rfl rfl ?_
 refine a0c x9x (j := 2) rfl rfl a1g rfl y5y (by decide) rfl ?_
 refine x3x rfl y5y rfl rfl ?_
 refine a0c x9x (j := 3) rfl rfl a1g rfl y5y (by decide) rfl ?_
 refine x3x rfl y5y rfl rfl ?_
 refine a0c x9x (j := 4) rfl rfl a1g rfl y5y (by decide) rfl ?_
 refine x3x rfl y5y rfl rfl ?_
 refine a0c x9x (j := 5) rfl rfl a1g rfl y5y (by decide) rfl ?_
 refine x3x rfl y5y rfl rfl ?_
 refine a0c x9x (j := 6) rfl rfl a1g rfl y5y (by decide) rfl ?_
 refine x3x rfl y5y rfl rfl ?_
 refine r3r v1v rfl b2r rfl (by simp only [pI, a0v, p2p, AV.okc, AV.one, T3, T4, List.getElem?_cons_zero, List.getElem?_cons_succ, List.take_succ_cons, List.take_zero, List.drop_succ_cons, List.drop_zero, List.cons_append, List.nil_append, List.length_cons, List.length_nil, if_true, and_self, Nat.reduceAdd, Nat.reduceLeDiff]; rfl) ?_
 refine u2u rfl rfl v1v rfl rfl rfl rfl ?_
 refine y6y ⟨.inr rfl, ?_⟩
 exact c0f rfl rfl rfl rfl
theorem b1l (a b : Ev) : a2g Try.prog 83 [.agg (a0i a), .agg (a0i b)] (.pv (.bool (a3m a b))) := by
 refine u9u x9x (fn := Try.f83) (by kernel_rfl) (by kernel_rfl) rfl (outs := [.pv (.bool (a3m a b))]) (by rfl) (u3u rfl) 2 ?_
 refine x7x x9x (by rfl) ?_
 refine r5r (id := 0) rfl rfl rfl ?_
 refine r5r (id := 1) rfl rfl rfl ?_
 refine x2x rfl ?_
 refine q5q x9x s7s (by rfl) ?_
 refine b7k x9x rfl a1g rfl y5y rfl ?_
 refine b7k x9x rfl a1g rfl y5y rfl ?_
 refine z1z [0, 1] [_, _] (a1e (evN a) (evN b) rfl (u3u rfl) 92) rfl rfl rfl (by decide) rfl rfl (by repeat (first | exact InH.nil | refine InH.cons rfl ?_)) (by (simp only [pI, y2y, y3y, v4v, gl, nx, v2v, Nat.beq]; rfl)) (by (simp only [pI, y2y, y3y, v4v, gl, nx, v2v, Nat.beq]; rfl)) ?_
 refine z0z rfl rfl rfl ?_
 refine x2x rfl ?_
 refine ⟨by kernel_rfl, ?_⟩
 refine y6y ⟨.inr rfl, ?_⟩
 refine z9z rfl ?_ rfl
 simp only [a3m, ← b3g (evN a) (evN b) rfl]
theorem a9f (a b : Ev) : a2g Try.prog 67 [.agg (a0i a), .agg (a0i b)] (.pv (.bool (a3m a b))) := by
 refine u9u x9x (fn := Try.f67) (by kernel_rfl) (by kernel_rfl) rfl (outs := [.pv (.bool (a3m a b))]) (by rfl) (u3u rfl) 2 ?_
 refine x7x x9x (by rfl) ?_
 refine r5r (id := 0) rfl rfl rfl ?_
 refine r5r (id := 1) rfl rfl rfl ?_
 refine x2x rfl ?_
 refine q5q x9x s7s (by rfl) ?_
 refine z3z rfl v1v rfl rfl rfl ?_
 refine z7z rfl rfl rfl (a4o ..) ?_
 refine z3z rfl v1v rfl rfl rfl ?_
 refine z7z rfl rfl rfl (a4o ..) ?_
 refine z7z rfl rfl rfl (b1l ..) ?_
 refine x2x rfl ?_
 refine ⟨by kernel_rfl, ?_⟩
 refine y6y ⟨.inr rfl, ?_⟩
 exact z9z rfl rfl rfl
end
section
theorem a9b (v : Int) : a2g Try.prog 69 [.pv (.int .i64 v)] (.pv (.bool (decide (0 ≤ v ∧ v ≤ 999)))) := by
 refine u9u x9x (fn := Try.f69) (by kernel_rfl) (by kernel_rfl) rfl (outs := [.pv (.bool (decide (0 ≤ v ∧ v ≤ 999)))]) (by rfl) (u3u rfl) 0 ?_
 refine x7x x9x (by rfl) ?_
 refine x2x rfl ?_
 refine x7x x9x (by rfl) ?_
 refine x0x rfl ?_
 refine z7z rfl rfl rfl (w3w ..) ?_
 refine x2x rfl ?_
 refine y6y ⟨.inr rfl, ?_⟩
 exact z9z rfl rfl rfl
theorem a9c (v : Int) : a2g Try.prog 87 [.pv (.int .i64 v)] (.pv (.bool (decide (0 ≤ v ∧ v ≤ 999)))) := by
 refine u9u x9x (fn := Try.f87) (by kernel_rfl) (by kernel_rfl) rfl (outs := [.pv (.bool (decide (0 ≤ v ∧ v ≤ 999)))]) (by rfl) (u3u rfl) 0 ?_
 refine x7x x9x (by rfl) ?_
 refine x2x rfl ?_
 refine x7x x9x (by rfl) ?_
 refine x0x rfl ?_
 refine z7z rfl rfl rfl (p4p ..) ?_
 refine x2x rfl ?_
 refine y6y ⟨.inr rfl, ?_⟩
 exact z9z rfl rfl rfl
theorem b3o (v : Int) : a2g Try.prog 82 [.pv (.int .i64 v)] (.pv (.bool (decide (0 ≤ v ∧ v ≤ 3)))) := by
 refine u9u x9x (fn := Try.f82) (by kernel_rfl) (by kernel_rfl) rfl (outs := [.pv (.bool (decide (0 ≤ v ∧ v ≤ 3)))]) (by rfl) (u3u rfl) 0 ?_
 refine x7x x9x (by rfl) ?_
 refine x2x rfl ?_
 refine x7x x9x (by rfl) ?_
 refine x0x rfl ?_
 refine z7z rfl rfl rfl (w3w ..) ?_
 refine x2x rfl ?_
 refine y6y ⟨.inr rfl, ?_⟩
 exact z9z rfl rfl rfl
theorem b1m (e : Ev) : a2g Try.prog 66 [.agg (a0i e)] (.pv (.bool (decide (b0q e)))) := by
 refine u9u x9x (fn := Try.f66) (by kernel_rfl) (by kernel_rfl) rfl (outs := [.pv (.bool (decide (b0q e)))]) (by rfl) (u3u rfl) 1 ?_
 refine x7x x9x (by rfl) ?_
 refine r5r (id := 0) rfl rfl rfl ?_
 refine x2x rfl ?_
 refine x7x x9x (by rfl) ?_
 refine x1x rfl v1v rfl rfl y5y rfl rfl ?_
 refine x3x rfl y5y rfl rfl ?_
 refine z7z rfl rfl rfl (w3w ..) ?_
 refine x0x rfl ?_
 refine a0d rfl rfl (fun hg1 => ?_) (fun hg1 => ?_)
 rotate_left
 ·try simp at hg1
  refine x4x rfl rfl ?_
  refine x4x rfl rfl ?_
  refine x6x rfl rfl ?_
  refine x0x rfl ?_
  refine x4x rfl rfl ?_
  refine x4x rfl rfl ?_
  refine x4x rfl rfl ?_
  refine x6x rfl rfl ?_
  refine x0x rfl ?_
  refine x4x rfl rfl ?_
  refine x4x rfl rfl ?_
  refine x4x rfl rfl ?_
  refine x6x rfl rfl ?_
  refine x0x rfl ?_
  refine x4x rfl rfl ?_
  refine x4x rfl rfl ?_
  refine x4x rfl rfl ?_
  refine x6x rfl rfl ?_
  refine x0x rfl ?_
  refine x4x rfl rfl ?_
  refine x4x rfl rfl ?_
  refine x4x rfl rfl ?_
  refine x6x rfl rfl ?_
  refine x0x rfl ?_
  refine x4x rfl rfl ?_
  refine x4x rfl rfl ?_
  refine x4x rfl rfl ?_
  refine x6x rfl rfl ?_
  refine x2x rfl ?_
  refine y6y ⟨.inr rfl, ?_⟩
  refine z9z rfl ?_ rfl
  exact kF (by unfold b0q; omega)
 try simp at hg1
 refine x1x rfl v1v rfl rfl y5y rfl rfl ?_
 refine y9y rfl rfl ?_
 refine x3x rfl y5y rfl rfl ?_
 refine y9y rfl rfl ?_
 refine z7z rfl rfl rfl (a7m ..) ?_
 refine z4z rfl rfl ?_
 refine x0x rfl ?_
 refine a0d rfl rfl (fun hg2 => ?_) (fun hg2 => ?_)
 rotate_left
 ·try simp at hg2
  refine x4x rfl rfl ?_
  refine x4x rfl rfl ?_
  refine x6x rfl rfl ?_
  refine x0x rfl ?_
  refine x4x rfl rfl ?_
  refine x4x rfl rfl ?_
  refine x4x rfl rfl ?_
  refine x6x rfl rfl ?_
  refine x0x rfl ?_
  refine x4x rfl rfl ?_
  refine x4x rfl rfl ?_
  refine x4x rfl rfl ?_
  refine x6x rfl rfl ?_
  refine x0x rfl ?_
  refine x4x rfl rfl ?_
  refine x4x rfl rfl ?_
  refine x4x rfl rfl ?_
  refine x6x rfl rfl ?_
  refine x0x rfl ?_
  refine x4x rfl rfl ?_
  refine x4x rfl rfl ?_
  refine x4x rfl rfl ?_
  refine x6x rfl rfl ?_
  refine x2x rfl ?_
  refine y6y ⟨.inr rfl, ?_⟩
  refine z9z rfl ?_ rfl
  exact kF (by unfold b0q; omega)
 try simp at hg2
 refine x1x rfl v1v rfl rfl y5y rfl rfl ?_
 refine y9y rfl rfl ?_
 refine x3x rfl y5y rfl rfl ?_
 refine y9y rfl rfl ?_
 refine z7z rfl rfl rfl (w3w ..) ?_
 refine z4z rfl rfl ?_
 refine x0x rfl ?_
 refine a0d rfl rfl (fun hg3 => ?_) (fun hg3 => ?_)
 rotate_left
 ·try simp at hg3
  refine x4x rfl rfl ?_
  refine x4x rfl rfl ?_
  refine x6x rfl rfl ?_
  refine x0x rfl ?_
  refine x4x rfl rfl ?_
  refine x4x rfl rfl ?_
  refine x4x rfl rfl ?_
  refine x6x rfl rfl ?_
  refine x0x rfl ?_
  refine x4x rfl rfl ?_
  refine x4x rfl rfl ?_
  refine x4x rfl rfl ?_
  refine x6x rfl rfl ?_
  refine x0x rfl ?_
  refine x4x rfl rfl ?_
  refine x4x rfl rfl ?_
  refine x4x rfl rfl ?_
  refine x6x rfl rfl ?_
  refine x2x rfl ?_
  refine y6y ⟨.inr rfl, ?_⟩
  refine z9z rfl ?_ rfl
  exact kF (by unfold b0q; omega)
 try simp at hg3
 refine x1x rfl v1v rfl rfl y5y rfl rfl ?_
 refine y9y rfl rfl ?_
 refine x3x rfl y5y rfl rfl ?_
 refine y9y rfl rfl ?_
 refine z7z rfl rfl rfl (w3w ..) ?_
 refine z4z rfl rfl ?_
 refine x0x rfl ?_
 refine a0d rfl rfl (fun hg4 => ?_) (fun hg4 => ?_)
 rotate_left
 ·try simp at hg4
  refine x4x rfl rfl ?_
  refine x4x rfl rfl ?_
  refine x6x rfl rfl ?_
  refine x0x rfl ?_
  refine x4x rfl rfl ?_
  refine x4x rfl rfl ?_
  refine x4x rfl rfl ?_
  refine x6x rfl rfl ?_
  refine x0x rfl ?_
  refine x4x rfl rfl ?_
  refine x4x rfl rfl ?_
  refine x4x rfl rfl ?_
  refine x6x rfl rfl ?_
  refine x2x rfl ?_
  refine y6y ⟨.inr rfl, ?_⟩
  refine z9z rfl ?_ rfl
  exact kF (by unfold b0q; omega)
 try simp at hg4
 refine x1x rfl v1v rfl rfl y5y rfl rfl ?_
 refine y9y rfl rfl ?_
 refine x3x rfl y5y rfl rfl ?_
 refine y9y rfl rfl ?_
 refine z7z rfl rfl rfl (w3w ..) ?_
 refine z4z rfl rfl ?_
 refine x0x rfl ?_
 refine a0d rfl rfl (fun hg5 => ?_) (fun hg5 => ?_)
 rotate_left
 ·try simp at hg5
  refine x4x rfl rfl ?_
  refine x4x rfl rfl ?_
  refine x6x rfl rfl ?_
  refine x0x rfl ?_
  refine x4x rfl rfl ?_
  refine x4x rfl rfl ?_
  refine x4x rfl rfl ?_
  refine x6x rfl rfl ?_
  refine x2x rfl ?_
  refine y6y ⟨.inr rfl, ?_⟩
  refine z9z rfl ?_ rfl
  exact kF (by unfold b0q; omega)
 try simp at hg5
 refine x1x rfl v1v rfl rfl y5y rfl rfl ?_
 refine y9y rfl rfl ?_
 refine x3x rfl y5y rfl rfl ?_
 refine y9y rfl rfl ?_
 refine z7z rfl rfl rfl (b3o ..) ?_
 refine z4z rfl rfl ?_
 refine x0x rfl ?_
 refine a0d rfl rfl (fun hg6 => ?_) (fun hg6 => ?_)
 rotate_left
 ·try simp at hg6
  refine x4x rfl rfl ?_
  refine x4x rfl rfl ?_
  refine x6x rfl rfl ?_
  refine x2x rfl ?_
  refine y6y ⟨.inr rfl, ?_⟩
  refine z9z rfl ?_ rfl
  exact kF (by unfold b0q; omega)
 try simp at hg6
 refine x1x rfl v1v rfl rfl y5y rfl rfl ?_
 refine y9y rfl rfl ?_
 refine x3x rfl y5y rfl rfl ?_
 refine y9y rfl rfl ?_
 refine z7z rfl rfl rfl (a9b ..) ?_
 refine z4z rfl rfl ?_
 refine x2x rfl ?_
 refine y6y ⟨.inr rfl, ?_⟩
 refine z9z rfl ?_ rfl
 exact congrArg (fun b : Bool => [AV.pv (.bool b)]) (decide_eq_decide.2 (by unfold b0q; omega))
theorem a9g (e : Ev) : a2g Try.prog 85 [.agg (a0i e)] (.pv (.bool (decide (b0q e)))) := by
 refine u9u x9x (fn := Try.f85) (by kernel_rfl) (by kernel_rfl) rfl (outs := [.pv (.bool (decide (b0q e)))]) (by rfl) (u3u rfl) 1 ?_
 refine x7x x9x (by rfl) ?_
 refine r5r (id := 0) rfl rfl rfl ?_
 refine x2x rfl ?_
 refine x7x x9x (by rfl) ?_
 refine x1x rfl v1v rfl rfl y5y rfl rfl ?_
 refine x3x rfl y5y rfl rfl ?_
 refine z7z rfl rfl rfl (p4p ..) ?_
 refine x0x rfl ?_
 refine a0d rfl rfl (fun hg1 => ?_) (fun hg1 => ?_)
 rotate_left
 ·try simp at hg1
  refine x4x rfl rfl ?_
  refine x4x rfl rfl ?_
  refine x6x rfl rfl ?_
  refine x0x rfl ?_
  refine x4x rfl rfl ?_
  refine x4x rfl rfl ?_
  refine x4x rfl rfl ?_
  refine x6x rfl rfl ?_
  refine x0x rfl ?_
  refine x4x rfl rfl ?_
  refine x4x rfl rfl ?_
  refine x4x rfl rfl ?_
  refine x6x rfl rfl ?_
  refine x0x rfl ?_
  refine x4x rfl rfl ?_
  refine x4x rfl rfl ?_
  refine x4x rfl rfl ?_
  refine x6x rfl rfl ?_
  refine x0x rfl ?_
  refine x4x rfl rfl ?_
  refine x4x rfl rfl ?_
  refine x4x rfl rfl ?_
  refine x6x rfl rfl ?_
  refine x0x rfl ?_
  refine x4x rfl rfl ?_
  refine x4x rfl rfl ?_
  refine x4x rfl rfl ?_
  refine x6x rfl rfl ?_
  refine x2x rfl ?_
  refine y6y ⟨.inr rfl, ?_⟩
  refine z9z rfl ?_ rfl
  exact kF (by unfold b0q; omega)
 try simp at hg1
 refine x1x rfl v1v rfl rfl y5y rfl rfl ?_
 refine y9y rfl rfl ?_
 refine x3x rfl y5y rfl rfl ?_
 refine y9y rfl rfl ?_
 refine z7z rfl rfl rfl (a7n ..) ?_
 refine z4z rfl rfl ?_
 refine x0x rfl ?_
 refine a0d rfl rfl (fun hg2 => ?_) (fun hg2 => ?_)
 rotate_left
 ·try simp at hg2
  refine x4x rfl rfl ?_
  refine x4x rfl rfl ?_
  refine x6x rfl rfl ?_
  refine x0x rfl ?_
  refine x4x rfl rfl ?_
  refine x4x rfl rfl ?_
  refine x4x rfl rfl ?_
  refine x6x rfl rfl ?_
  refine x0x rfl ?_
  refine x4x rfl rfl ?_
  refine x4x rfl rfl ?_
  refine x4x rfl rfl ?_
  refine x6x rfl rfl ?_
  refine x0x rfl ?_
  refine x4x rfl rfl ?_
  refine x4x rfl rfl ?_
  refine x4x rfl rfl ?_
  refine x6x rfl rfl ?_
  refine x0x rfl ?_
  refine x4x rfl rfl ?_
  refine x4x rfl rfl ?_
  refine x4x rfl rfl ?_
  refine x6x rfl rfl ?_
  refine x2x rfl ?_
  refine y6y ⟨.inr rfl, ?_⟩
  refine z9z rfl ?_ rfl
  exact kF (by unfold b0q; omega)
 try simp at hg2
 refine x1x rfl v1v rfl rfl y5y rfl rfl ?_
 refine y9y rfl rfl ?_
 refine x3x rfl y5y rfl rfl ?_
 refine y9y rfl rfl ?_
 refine z7z rfl rfl rfl (p4p ..) ?_
 refine z4z rfl rfl ?_
 refine x0x rfl ?_
 refine a0d rfl rfl (fun hg3 => ?_) (fun hg3 => ?_)
 rotate_left
 ·try simp at hg3
  refine x4x rfl rfl ?_
  refine x4x rfl rfl ?_
  refine x6x rfl rfl ?_
  refine x0x rfl ?_
  refine x4x rfl rfl ?_
  refine x4x rfl rfl ?_
  refine x4x rfl rfl ?_
  refine x6x rfl rfl ?_
  refine x0x rfl ?_
  refine x4x rfl rfl ?_
  refine x4x rfl rfl ?_
  refine x4x rfl rfl ?_
  refine x6x rfl rfl ?_
  refine x0x rfl ?_
  refine x4x rfl rfl ?_
  refine x4x rfl rfl ?_
  refine x4x rfl rfl ?_
  refine x6x rfl rfl ?_
  refine x2x rfl ?_
  refine y6y ⟨.inr rfl, ?_⟩
  refine z9z rfl ?_ rfl
  exact kF (by unfold b0q; omega)
 try simp at hg3
 refine x1x rfl v1v rfl rfl y5y rfl rfl ?_
 refine y9y rfl rfl ?_
 refine x3x rfl y5y rfl rfl ?_
 refine y9y rfl rfl ?_
 refine z7z rfl rfl rfl (p4p ..) ?_
 refine z4z rfl rfl ?_
 refine x0x rfl ?_
 refine a0d rfl rfl (fun hg4 => ?_) (fun hg4 => ?_)
 rotate_left
 ·try simp at hg4
  refine x4x rfl rfl ?_
  refine x4x rfl rfl ?_
  refine x6x rfl rfl ?_
  refine x0x rfl ?_
  refine x4x rfl rfl ?_
  refine x4x rfl rfl ?_
  refine x4x rfl rfl ?_
  refine x6x rfl rfl ?_
  refine x0x rfl ?_
  refine x4x rfl rfl ?_
  refine x4x rfl rfl ?_
  refine x4x rfl rfl ?_
  refine x6x rfl rfl ?_
  refine x2x rfl ?_
  refine y6y ⟨.inr rfl, ?_⟩
  refine z9z rfl ?_ rfl
  exact kF (by unfold b0q; omega)
 try simp at hg4
 refine x1x rfl v1v rfl rfl y5y rfl rfl ?_
 refine y9y rfl rfl ?_
 refine x3x rfl y5y rfl rfl ?_
 refine y9y rfl rfl ?_
 refine z7z rfl rfl rfl (p4p ..) ?_
 refine z4z rfl rfl ?_
 refine x0x rfl ?_
 refine a0d rfl rfl (fun hg5 => ?_) (fun hg5 => ?_)
 rotate_left
 ·try simp at hg5
  refine x4x rfl rfl ?_
  refine x4x rfl rfl ?_
  refine x6x rfl rfl ?_
  refine x0x rfl ?_
  refine x4x rfl rfl ?_
  refine x4x rfl rfl ?_
  refine x4x rfl rfl ?_
  refine x6x rfl rfl ?_
  refine x2x rfl ?_
  refine y6y ⟨.inr rfl, ?_⟩
  refine z9z rfl ?_ rfl
  exact kF (by unfold b0q; omega)
 try simp at hg5
 refine x1x rfl v1v rfl rfl y5y rfl rfl ?_
 refine y9y rfl rfl ?_
 refine x3x rfl y5y rfl rfl ?_
 refine y9y rfl rfl ?_
 refine z7z rfl rfl rfl (p4p ..) ?_
 refine z4z rfl rfl ?_
 refine x0x rfl ?_
 refine a0d rfl rfl (fun hg6 => ?_) (fun hg6 => ?_)
 rotate_left
 ·try simp at hg6
  refine x4x rfl rfl ?_
  refine x4x rfl rfl ?_
  refine x6x rfl rfl ?_
  refine x2x rfl ?_
  refine y6y ⟨.inr rfl, ?_⟩
  refine z9z rfl ?_ rfl
  exact kF (by unfold b0q; omega)
 try simp at hg6
 refine x1x rfl v1v rfl rfl y5y rfl rfl ?_
 refine y9y rfl rfl ?_
 refine x3x rfl y5y rfl rfl ?_
 refine y9y rfl rfl ?_
 refine z7z rfl rfl rfl (a9c ..) ?_
 refine z4z rfl rfl ?_
 refine x2x rfl ?_
 refine y6y ⟨.inr rfl, ?_⟩
 refine z9z rfl ?_ rfl
 exact congrArg (fun b : Bool => [AV.pv (.bool b)]) (decide_eq_decide.2 (by unfold b0q; omega))
theorem a3x (a b : Ev) : a2g Try.prog 79 [.agg (a0i a), .agg (a0i b)] (.pv (.bool (a3m a b))) := by
 refine u9u x9x (fn := Try.f79) (by kernel_rfl) (by kernel_rfl) rfl (outs := [.pv (.bool (a3m a b))]) (by rfl) (u3u rfl) 2 ?_
 refine x7x x9x (by rfl) ?_
 refine r5r (id := 0) rfl rfl rfl ?_
 refine r5r (id := 1) rfl rfl rfl ?_
 refine x2x rfl ?_
 refine x8x fun K1 hK1 => ?_
 refine y7y ?_
 refine x7x x9x (by rfl) ?_
 refine x1x rfl v1v rfl rfl y5y rfl rfl ?_
 refine x3x rfl y5y rfl rfl ?_
 refine x1x rfl v1v rfl rfl y5y rfl rfl ?_
 refine x3x rfl y5y rfl rfl ?_
 refine z0z rfl rfl rfl ?_
 refine x2x rfl ?_
 refine y1y rfl (fun hc2 => ?_) (fun hc2 => ?_)
 ·try simp at hc2
  refine x7x x9x (by rfl) ?_
  refine x1x rfl v1v rfl rfl y5y rfl rfl ?_
  refine x3x rfl y5y rfl rfl ?_
  refine x1x rfl v1v rfl rfl y5y rfl rfl ?_
  refine x3x rfl y5y rfl rfl ?_
  refine z0z rfl rfl rfl ?_
  refine x2x rfl ?_
  refine y6y ⟨.inr rfl, ?_⟩
  clear hK1 K1
  refine z9z rfl ?_ rfl
  rw [a3s]
  exact congrArg (fun b : Bool => [AV.pv (.bool b)]) (decide_eq_decide.2 (by unfold c0y; omega))
 try simp at hc2
 refine x7x x9x (by rfl) ?_
 refine x1x rfl v1v rfl rfl y5y rfl rfl ?_
 refine x3x rfl y5y rfl rfl ?_
 refine x1x rfl v1v rfl rfl y5y rfl rfl ?_
 refine x3x rfl y5y rfl rfl ?_
 refine z0z rfl rfl rfl ?_
 refine x2x rfl ?_
 refine y1y rfl (fun hc3 => ?_) (fun hc3 => ?_)
 ·try simp at hc3
  refine x7x x9x (by rfl) ?_
  refine x1x rfl v1v rfl rfl y5y rfl rfl ?_
  refine x3x rfl y5y rfl rfl ?_
  refine x1x rfl v1v rfl rfl y5y rfl rfl ?_
  refine x3x rfl y5y rfl rfl ?_
  refine z0z rfl rfl rfl ?_
  refine x2x rfl ?_
  refine y6y ⟨.inr rfl, ?_⟩
  clear hK1 K1
  refine z9z rfl ?_ rfl
  rw [a3s]
  exact congrArg (fun b : Bool => [AV.pv (.bool b)]) (decide_eq_decide.2 (by unfold c0y; omega))
 try simp at hc3
 refine x7x x9x (by rfl) ?_
 refine x1x rfl v1v rfl rfl y5y rfl rfl ?_
 refine x3x rfl y5y rfl rfl ?_
 refine x1x rfl v1v rfl rfl y5y rfl rfl ?_
 refine x3x rfl y5y rfl rfl ?_
 refine z0z rfl rfl rfl ?_
 refine x2x rfl ?_
 refine y1y rfl (fun hc4 => ?_) (fun hc4 => ?_)
 ·try simp at hc4
  refine x7x x9x (by rfl) ?_
  refine x1x rfl v1v rfl rfl y5y rfl rfl ?_
  refine x3x rfl y5y rfl rfl ?_
  refine x1x rfl v1v rfl rfl y5y rfl rfl ?_
  refine x3x rfl y5y rfl rfl ?_
  refine z0z rfl rfl rfl ?_
  refine x2x rfl ?_
  refine y6y ⟨.inr rfl, ?_⟩
  clear hK1 K1
  refine z9z rfl ?_ rfl
  rw [a3s]
  exact congrArg (fun b : Bool => [AV.pv (.bool b)]) (decide_eq_decide.2 (by unfold c0y; omega))
 try simp at hc4
 refine x7x x9x (by rfl) ?_
 refine x1x rfl v1v rfl rfl y5y rfl rfl ?_
 refine x3x rfl y5y rfl rfl ?_
 refine x1x rfl v1v rfl rfl y5y rfl rfl ?_
 refine x3x rfl y5y rfl rfl ?_
 refine z0z rfl rfl rfl ?_
 refine x2x rfl ?_
 refine y1y rfl (fun hc5 => ?_) (fun hc5 => ?_)
 ·try simp at hc5
  refine x7x x9x (by rfl) ?_
  refine x1x rfl v1v rfl rfl y5y rfl rfl ?_
  refine x3x rfl y5y rfl rfl ?_
  refine x1x rfl v1v rfl rfl y5y rfl rfl ?_
  refine x3x rfl y5y rfl rfl ?_
  refine z0z rfl rfl rfl ?_
  refine x2x rfl ?_
  refine y6y ⟨.inr rfl, ?_⟩
  clear hK1 K1
  refine z9z rfl ?_ rfl
  rw [a3s]
  exact congrArg (fun b : Bool => [AV.pv (.bool b)]) (decide_eq_decide.2 (by unfold c0y; omega))
 try simp at hc5
 refine x7x x9x (by rfl) ?_
 refine x1x rfl v1v rfl rfl y5y rfl rfl ?_
 refine x3x rfl y5y rfl rfl ?_
 refine x1x rfl v1v rfl rfl y5y rfl rfl ?_
 refine x3x rfl y5y rfl rfl ?_
 refine z0z rfl rfl rfl ?_
 refine x2x rfl ?_
 refine y1y rfl (fun hc6 => ?_) (fun hc6 => ?_)
 ·try simp at hc6
  refine x7x x9x (by rfl) ?_
  refine x1x rfl v1v rfl rfl y5y rfl rfl ?_
  refine x3x rfl y5y rfl rfl ?_
  refine x1x rfl v1v rfl rfl y5y rfl rfl ?_
  refine x3x rfl y5y rfl rfl ?_
  refine z0z rfl rfl rfl ?_
  refine x2x rfl ?_
  refine y6y ⟨.inr rfl, ?_⟩
  clear hK1 K1
  refine z9z rfl ?_ rfl
  rw [a3s]
  exact congrArg (fun b : Bool => [AV.pv (.bool b)]) (decide_eq_decide.2 (by unfold c0y; omega))
 try simp at hc6
 refine x7x x9x (by rfl) ?_
 refine x1x rfl v1v rfl rfl y5y rfl rfl ?_
 refine x3x rfl y5y rfl rfl ?_
 refine x1x rfl v1v rfl rfl y5y rfl rfl ?_
 refine x3x rfl y5y rfl rfl ?_
 refine z0z rfl rfl rfl ?_
 refine x2x rfl ?_
 refine y1y rfl (fun hc7 => ?_) (fun hc7 => ?_)
 ·try simp at hc7
  refine x7x x9x (by rfl) ?_
  refine x1x rfl v1v rfl rfl y5y rfl rfl ?_
  refine x3x rfl y5y rfl rfl ?_
  refine x1x rfl v1v rfl rfl y5y rfl rfl ?_
  refine x3x rfl y5y rfl rfl ?_
  refine z0z rfl rfl rfl ?_
  refine x2x rfl ?_
  refine y6y ⟨.inr rfl, ?_⟩
  clear hK1 K1
  refine z9z rfl ?_ rfl
  rw [a3s]
  exact congrArg (fun b : Bool => [AV.pv (.bool b)]) (decide_eq_decide.2 (by unfold c0y; omega))
 try simp at hc7
 refine y8y ?_
 refine hK1 _ _ ?_
 clear hK1 K1
 refine x7x x9x (by rfl) ?_
 refine x1x rfl v1v rfl rfl y5y rfl rfl ?_
 refine x3x rfl y5y rfl rfl ?_
 refine x1x rfl v1v rfl rfl y5y rfl rfl ?_
 refine x3x rfl y5y rfl rfl ?_
 refine z0z rfl rfl rfl ?_
 refine x2x rfl ?_
 refine y6y ⟨.inr rfl, ?_⟩
 refine z9z rfl ?_ rfl
 rw [a3s]
 exact congrArg (fun b : Bool => [AV.pv (.bool b)]) (decide_eq_decide.2 (by unfold c0y; omega))
theorem a5z (a b : Ou) : a2g Try.prog 81 [.agg (a2c a), .agg (a2c b)] (.pv (.bool (a7g a b))) := by
 refine u9u x9x (fn := Try.f81) (by kernel_rfl) (by kernel_rfl) rfl (outs := [.pv (.bool (a7g a b))]) (by rfl) (u3u rfl) 2 ?_
 refine x7x x9x (by rfl) ?_
 refine r5r (id := 0) rfl rfl rfl ?_
 refine r5r (id := 1) rfl rfl rfl ?_
 refine x2x rfl ?_
 refine x8x fun K1 hK1 => ?_
 refine y7y ?_
 refine x7x x9x (by rfl) ?_
 refine x1x rfl v8v rfl rfl y5y rfl rfl ?_
 refine x3x rfl y5y rfl rfl ?_
 refine x1x rfl v8v rfl rfl y5y rfl rfl ?_
 refine x3x rfl y5y rfl rfl ?_
 refine z0z rfl rfl rfl ?_
 refine x2x rfl ?_
 refine y1y rfl (fun hc2 => ?_) (fun hc2 => ?_)
 ·try simp at hc2
  refine x7x x9x (by rfl) ?_
  refine x1x rfl v8v rfl rfl y5y rfl rfl ?_
  refine x3x rfl y5y rfl rfl ?_
  refine x1x rfl v8v rfl rfl y5y rfl rfl ?_
  refine x3x rfl y5y rfl rfl ?_
  refine z0z rfl rfl rfl ?_
  refine x2x rfl ?_
  refine y6y ⟨.inr rfl, ?_⟩
  clear hK1 K1
  refine z9z rfl ?_ rfl
  rw [a7j]
  exact congrArg (fun b : Bool => [AV.pv (.bool b)]) (decide_eq_decide.2 (by unfold c2v; omega))
 try simp at hc2
 refine x7x x9x (by rfl) ?_
 refine x1x rfl v8v rfl rfl y5y rfl rfl ?_
 refine x3x rfl y5y rfl rfl ?_
 refine x1x rfl v8v rfl rfl y5y rfl rfl ?_
 refine x3x rfl y5y rfl rfl ?_
 refine z0z rfl rfl rfl ?_
 refine x2x rfl ?_
 refine y1y rfl (fun hc3 => ?_) (fun hc3 => ?_)
 ·try simp at hc3
  refine x7x x9x (by rfl) ?_
  refine x1x rfl v8v rfl rfl y5y rfl rfl ?_
  refine x3x rfl y5y rfl rfl ?_
  refine x1x rfl v8v rfl rfl y5y rfl rfl ?_
  refine x3x rfl y5y rfl rfl ?_
  refine z0z rfl rfl rfl ?_
  refine x2x rfl ?_
  refine y6y ⟨.inr rfl, ?_⟩
  clear hK1 K1
  refine z9z rfl ?_ rfl
  rw [a7j]
  exact congrArg (fun b : Bool => [AV.pv (.bool b)]) (decide_eq_decide.2 (by unfold c2v; omega))
 try simp at hc3
 refine x7x x9x (by rfl) ?_
 refine x1x rfl v8v rfl rfl y5y rfl rfl ?_
 refine x3x rfl y5y rfl rfl ?_
 refine x1x rfl v8v rfl rfl y5y rfl rfl ?_
 refine x3x rfl y5y rfl rfl ?_
 refine z0z rfl rfl rfl ?_
 refine x2x rfl ?_
 refine y1y rfl (fun hc4 => ?_) (fun hc4 => ?_)
 ·try simp at hc4
  refine x7x x9x (by rfl) ?_
  refine x1x rfl v8v rfl rfl y5y rfl rfl ?_
  refine x3x rfl y5y rfl rfl ?_
  refine x1x rfl v8v rfl rfl y5y rfl rfl ?_
  refine x3x rfl y5y rfl rfl ?_
  refine z0z rfl rfl rfl ?_
  refine x2x rfl ?_
  refine y6y ⟨.inr rfl, ?_⟩
  clear hK1 K1
  refine z9z rfl ?_ rfl
  rw [a7j]
  exact congrArg (fun b : Bool => [AV.pv (.bool b)]) (decide_eq_decide.2 (by unfold c2v; omega))
 try simp at hc4
 refine x7x x9x (by rfl) ?_
 refine x1x rfl v8v rfl rfl y5y rfl rfl ?_
 refine x3x rfl y5y rfl rfl ?_
 refine x1x rfl v8v rfl rfl y5y rfl rfl ?_
 refine x3x rfl y5y rfl rfl ?_
 refine z0z rfl rfl rfl ?_
 refine x2x rfl ?_
 refine y1y rfl (fun hc5 => ?_) (fun hc5 => ?_)
 ·try simp at hc5
  refine x7x x9x (by rfl) ?_
  refine x1x rfl v8v rfl rfl y5y rfl rfl ?_
  refine x3x rfl y5y rfl rfl ?_
  refine x1x rfl v8v rfl rfl y5y rfl rfl ?_
  refine x3x rfl y5y rfl rfl ?_
  refine z0z rfl rfl rfl ?_
  refine x2x rfl ?_
  refine y6y ⟨.inr rfl, ?_⟩
  clear hK1 K1
  refine z9z rfl ?_ rfl
  rw [a7j]
  exact congrArg (fun b : Bool => [AV.pv (.bool b)]) (decide_eq_decide.2 (by unfold c2v; omega))
 try simp at hc5
 refine y8y ?_
 refine hK1 _ _ ?_
 clear hK1 K1
 refine x7x x9x (by rfl) ?_
 refine x1x rfl v8v rfl rfl y5y rfl rfl ?_
 refine x3x rfl y5y rfl rfl ?_
 refine x1x rfl v8v rfl rfl y5y rfl rfl ?_
 refine x3x rfl y5y rfl rfl ?_
 refine z0z rfl rfl rfl ?_
 refine x2x rfl ?_
 refine y6y ⟨.inr rfl, ?_⟩
 refine z9z rfl ?_ rfl
 rw [a7j]
 exact congrArg (fun b : Bool => [AV.pv (.bool b)]) (decide_eq_decide.2 (by unfold c2v; omega))
theorem b1n (a b : Ou) : a2g Try.prog 70 [.agg (a2c a), .agg (a2c b)] (.pv (.bool (a7g a b))) := by
 refine u9u x9x (fn := Try.f70) (by kernel_rfl) (by kernel_rfl) rfl (outs := [.pv (.bool (a7g a b))]) (by rfl) (u3u rfl) 4 ?_
 refine x7x x9x (by rfl) ?_
 refine r5r (id := 0) rfl rfl rfl ?_
 refine r5r (id := 1) rfl rfl rfl ?_
 refine x2x rfl ?_
 refine x7x x9x (by rfl) ?_
 refine x1x rfl v8v rfl rfl y5y rfl rfl ?_
 refine x3x rfl y5y rfl rfl ?_
 refine x1x rfl v8v rfl rfl y5y rfl rfl ?_
 refine x3x rfl y5y rfl rfl ?_
 refine x1x rfl v8v rfl rfl y5y rfl rfl ?_
 refine x3x rfl y5y rfl rfl ?_
 refine x1x rfl v8v rfl rfl y5y rfl rfl ?_
 refine x3x rfl y5y rfl rfl ?_
 refine x1x rfl v8v rfl rfl y5y rfl rfl ?_
 refine x3x rfl y5y rfl rfl ?_
 refine a6h x9x a8w rfl y5y b7h rfl (by simp only [pI, y5y, a8h, List.range, List.range.loop, List.map_cons, List.map_nil, a0v, p2p, AV.okc, AV.one, Value.oneCell', T3, T4, List.getElem?_cons_zero, List.getElem?_cons_succ, List.take_succ_cons, List.take_zero, List.drop_succ_cons, List.drop_zero, List.cons_append, List.nil_append, List.length_cons, List.length_nil, if_true, and_self, Nat.reduceAdd, Nat.reduceMul, Nat.reduceLeDiff]; rfl) ?_
 refine q0q (id := 2) a8w b7h rfl ?_
 refine u2u rfl rfl a8w rfl rfl rfl rfl ?_
 refine x7x x9x (by rfl) ?_
 refine x1x rfl v8v rfl rfl y5y rfl rfl ?_
 refine x3x rfl y5y rfl rfl ?_
 refine x1x rfl v8v rfl rfl y5y rfl rfl ?_
 refine x3x rfl y5y rfl rfl ?_
 refine x1x rfl v8v rfl rfl y5y rfl rfl ?_
 refine x3x rfl y5y rfl rfl ?_
 refine x1x rfl v8v rfl rfl y5y rfl rfl ?_
 refine x3x rfl y5y rfl rfl ?_
 refine x1x rfl v8v rfl rfl y5y rfl rfl ?_
 refine x3x rfl y5y rfl rfl ?_
 refine a6h x9x a8w rfl y5y b7h rfl (by simp only [pI, y5y, a8h, List.range, List.range.loop, List.map_cons, List.map_nil, a0v, p2p, AV.okc, AV.one, Value.oneCell', T3, T4, List.getElem?_cons_zero, List.getElem?_cons_succ, List.take_succ_cons, List.take_zero, List.drop_succ_cons, List.drop_zero, List.cons_append, List.nil_append, List.length_cons, List.length_nil, if_true, and_self, Nat.reduceAdd, Nat.reduceMul, Nat.reduceLeDiff]; rfl) ?_
 refine q0q (id := 3) a8w b7h rfl ?_
 refine u2u rfl rfl a8w rfl rfl rfl rfl ?_
 refine q5q x9x s7s (by rfl) ?_
 refine b7k x9x rfl a8w rfl y5y rfl ?_
 refine b7k x9x rfl a8w rfl y5y rfl ?_
 refine z1z [2, 3] [_, _] (a1e (ouL a) (ouL b) rfl (u3u rfl) 120) rfl rfl rfl (by decide) rfl rfl (by repeat (first | exact InH.nil | refine InH.cons rfl ?_)) (by (simp only [pI, y2y, y3y, v4v, gl, nx, v2v, Nat.beq]; rfl)) (by (simp only [pI, y2y, y3y, v4v, gl, nx, v2v, Nat.beq]; rfl)) ?_
 refine z0z rfl rfl rfl ?_
 refine x2x rfl ?_
 refine ⟨by kernel_rfl, ?_⟩
 refine y6y ⟨.inr rfl, ?_⟩
 refine z9z rfl ?_ rfl
 simp only [a7g, ← b3g (ouL a) (ouL b) rfl]
theorem b0y (c : Bool) (l : List Ev) (most : Int) : a2g Try.prog 34 [a7x c l, .pv (.int .i64 most)] (.pv (.bool (a6m okE a3m l most))) := by
 refine u9u x9x (fn := Try.f34) (by kernel_rfl) (by kernel_rfl) rfl (outs := [.pv (.bool (a6m okE a3m l most))]) (by rfl) (u3u rfl) 1 ?_
 refine s1s 0 rfl fun hlen => ?_
 refine x7x x9x (by rfl) ?_
 refine x2x rfl ?_
 refine x8x fun K1 hK1 => ?_
 refine x7x x9x (by rfl) ?_
 refine x0x rfl ?_
 refine v3v rfl w2w rfl ?_
 refine x0x rfl ?_
 refine z0z rfl rfl rfl ?_
 refine y1y rfl (fun hc2 => ?_) (fun hc2 => ?_)
 ·try simp at hc2
  refine x7x x9x (by rfl) ?_
  refine x2x rfl ?_
  refine y6y ⟨.inr rfl, ?_⟩
  clear hK1 K1
  refine z9z rfl ?_ rfl
  exact congrArg (fun b : Bool => [AV.pv (.bool b)]) (a7i (by omega)).symm
 try simp at hc2
 refine y8y ?_
 refine hK1 _ _ ?_
 clear hK1 K1
 refine x8x fun K3 hK3 => ?_
 refine x7x x9x (by rfl) ?_
 refine x0x rfl ?_
 refine v3v rfl w2w rfl ?_
 refine x0x rfl ?_
 refine y7y ?_
 refine v9v (ι := Nat) (fun i γ1 => [(13, .pv (.int .i64 (i : Int)))]) (fun i γ1 => [(0, ((γ1 0), .dead))]) (fun i => i ≤ l.length ∧ a6m okE a3m l most = a8j okE a3m (a9d l i) (l.drop i)) (fun i => l.length - i) (x5x 0 rfl (x5x 11 rfl (x5x 12 rfl Cov.nil))) HE.nil 0 ⟨by omega, b3i (by omega)⟩ [_] (x5x 13 rfl Cov.nil) (HE.kill rfl HE.nil) rfl fun i γ1 hi => ?_
 try dsimp only [List.cons_append, List.nil_append]
 obtain ⟨h1, h2⟩ := hi
 refine x7x x9x (by rfl) ?_
 refine z0z rfl rfl rfl ?_
 refine x8x fun K4 hK4 => ?_
 refine y1y rfl (fun hc5 => ?_) (fun hc5 => ?_)
 rotate_left
 ·try simp at hc5
  obtain rfl : i = l.length := by omega
  rw [List.drop_length] at h2
  refine v7v ?_
  refine hK3 _ _ ?_
  clear hK4 K4 hK3 K3
  refine x7x x9x (by rfl) ?_
  refine x2x rfl ?_
  refine y6y ⟨.inr rfl, ?_⟩
  refine z9z rfl ?_ rfl
  exact congrArg (fun b : Bool => [AV.pv (.bool b)]) h2.symm
 try simp at hc5
 obtain ⟨p, hp⟩ : ∃ p, l[i]? = some p := s8s (by omega)
 rw [a4m hp] at h2
 refine y8y ?_
 refine hK4 _ _ ?_
 clear hK4 K4
 refine x8x fun K6 hK6 => ?_
 refine y7y ?_
 refine x7x x9x (by rfl) ?_
 refine x0x rfl ?_
 refine v0v rfl rfl w2w rfl v1v rfl hp ?_
 refine w1w rfl v1v rfl rfl ?_
 refine q0q (id := 0) v1v b2r rfl ?_
 refine x2x rfl ?_
 refine u2u rfl rfl v1v rfl rfl rfl rfl ?_
 refine q5q x9x s7s (by rfl) ?_
 refine z3z rfl v1v rfl rfl rfl ?_
 refine z7z rfl rfl rfl (b1m ..) ?_
 refine s6s rfl ?_
 refine x0x rfl ?_
 refine a0d rfl rfl (fun hg7 => ?_) (fun hg7 => ?_)
 rotate_left
 ·try simp at hg7
  have hbad : okE p = false := by simpa [okE] using hg7
  refine x4x rfl rfl ?_
  refine x4x rfl rfl ?_
  refine p7p rfl rfl ?_
  refine p7p rfl rfl ?_
  refine p7p rfl rfl ?_
  refine p7p rfl rfl ?_
  refine p7p rfl rfl ?_
  refine p7p rfl rfl ?_
  refine p7p rfl rfl ?_
  refine p7p rfl rfl ?_
  refine x4x rfl rfl ?_
  refine z4z rfl rfl ?_
  refine ⟨by kernel_rfl, ?_⟩
  refine y1y rfl (fun hc11 => ?_) (fun hc11 => ?_)
  rotate_left
  ·simp at hc11
  try simp at hc11
  try have hlt := hc11
  refine x7x x9x (by rfl) ?_
  refine x2x rfl ?_
  refine y6y ⟨.inr rfl, ?_⟩
  clear hK6 K6 hK3 K3
  refine z9z rfl ?_ rfl
  exact congrArg (fun b : Bool => [AV.pv (.bool b)]) (h2.trans (a2u _ _ hbad)).symm
 try simp at hg7
 have hok : okE p = true := by simpa [okE] using hg7
 refine x0x rfl ?_
 refine y9y rfl rfl ?_
 refine z0z rfl rfl rfl ?_
 refine y9y rfl rfl ?_
 refine x0x rfl ?_
 refine a0d rfl rfl (fun hg8 => ?_) (fun hg8 => ?_)
 rotate_left
 ·try simp at hg8
  have hi0 : i = 0 := by omega
  have hlast : a9d l i = none := by rw [hi0]; rfl
  rw [hlast] at h2
  refine x4x rfl rfl ?_
  refine x4x rfl rfl ?_
  refine x4x rfl rfl ?_
  refine x4x rfl rfl ?_
  refine x4x rfl rfl ?_
  refine x4x rfl rfl ?_
  refine x4x rfl rfl ?_
  refine y9y rfl rfl ?_
  refine x6x rfl rfl ?_
  refine x6x rfl rfl ?_
  refine ⟨by kernel_rfl, ?_⟩
  refine y1y rfl (fun hc10 => ?_) (fun hc10 => ?_)
  ·simp at hc10
  try simp at hc10
  try have hlt := hc10
  refine y8y ?_
  refine hK6 _ _ ?_
  clear hK6 K6
  refine y0y x9x (by rfl) ?_
  refine r0r (b := 1) rfl rfl (by omega) ?_
  refine x0x rfl ?_
  exact ⟨i + 1, ⟨⟨by omega, by rw [h2]; show _ = a8j okE a3m l[i]? _; rw [hp]; exact a5j _ _ hok⟩, by omega⟩, [_], (x5x 13 rfl Cov.nil), (x5x 0 rfl (x5x 11 rfl (x5x 12 rfl Cov.nil))), (HE.kill rfl HE.nil), HE.nil, rfl⟩
 try simp at hg8
 have hi0 : 0 < i := by omega
 obtain ⟨b, hb⟩ : ∃ b, l[i - 1]? = some b := s8s (by omega)
 have hlast : a9d l i = some b := by obtain ⟨j, rfl⟩ : ∃ j, i = j + 1 := ⟨i - 1, by omega⟩; exact hb
 rw [hlast] at h2
 refine x0x rfl ?_
 refine y9y rfl rfl ?_
 refine x0x rfl ?_
 refine y9y rfl rfl ?_
 refine a0w (b := 1) rfl rfl (by omega) (by omega) ?_
 refine y9y rfl rfl ?_
 refine v0v rfl rfl w2w rfl v1v rfl hb ?_
 refine y9y rfl rfl ?_
 refine w1w rfl v1v rfl rfl ?_
 refine y9y rfl rfl ?_
 refine z3z rfl v1v rfl rfl rfl ?_
 refine y9y rfl rfl ?_
 refine z7z rfl rfl rfl (a9f ..) ?_
 refine y9y rfl rfl ?_
 refine s6s rfl ?_
 refine y9y rfl rfl ?_
 refine z4z rfl rfl ?_
 refine x6x rfl rfl ?_
 refine ⟨by kernel_rfl, ?_⟩
 refine y1y rfl (fun hc9 => ?_) (fun hc9 => ?_)
 rotate_left
 ·try simp at hc9
  try have hlt := hc9
  refine y8y ?_
  refine hK6 _ _ ?_
  clear hK6 K6
  refine y0y x9x (by rfl) ?_
  refine r0r (b := 1) rfl rfl (by omega) ?_
  refine x0x rfl ?_
  exact ⟨i + 1, ⟨⟨by omega, by rw [h2]; show _ = a8j okE a3m l[i]? _; rw [hp]; exact a7h _ _ hok hlt⟩, by omega⟩, [_], (x5x 13 rfl Cov.nil), (x5x 0 rfl (x5x 11 rfl (x5x 12 rfl Cov.nil))), (HE.kill rfl HE.nil), HE.nil, rfl⟩
 try simp at hc9
 try have hlt := hc9
 refine x7x x9x (by rfl) ?_
 refine x2x rfl ?_
 refine y6y ⟨.inr rfl, ?_⟩
 clear hK6 K6 hK3 K3
 refine z9z rfl ?_ rfl
 exact congrArg (fun b : Bool => [AV.pv (.bool b)]) (h2.trans (b3h _ _ hlt)).symm
theorem b0z (c : Bool) (l : List Ev) (most : Int) : a2g Try.prog 76 [a7x c l, .pv (.int .i64 most)] (.pv (.bool (a6m okE a3m l most))) := by
 refine u9u x9x (fn := Try.f76) (by kernel_rfl) (by kernel_rfl) rfl (outs := [.pv (.bool (a6m okE a3m l most))]) (by rfl) (u3u rfl) 0 ?_
 refine s1s 0 rfl fun hlen => ?_
 refine x7x x9x (by rfl) ?_
 refine x2x rfl ?_
 refine x8x fun K1 hK1 => ?_
 refine x7x x9x (by rfl) ?_
 refine x0x rfl ?_
 refine v3v rfl w2w rfl ?_
 refine x0x rfl ?_
 refine z0z rfl rfl rfl ?_
 refine y1y rfl (fun hc2 => ?_) (fun hc2 => ?_)
 ·try simp at hc2
  refine x7x x9x (by rfl) ?_
  refine x2x rfl ?_
  refine y6y ⟨.inr rfl, ?_⟩
  clear hK1 K1
  refine z9z rfl ?_ rfl
  exact congrArg (fun b : Bool => [AV.pv (.bool b)]) (a7i (by omega)).symm
 try simp at hc2
 refine y8y ?_
 refine hK1 _ _ ?_
 clear hK1 K1
 refine x8x fun K3 hK3 => ?_
 refine x7x x9x (by rfl) ?_
 refine x2x rfl ?_
 refine y7y ?_
 refine v9v (ι := Nat) (fun i γ1 => [(5, .pv (.int .i64 (i : Int)))]) (fun i γ1 => []) (fun i => i ≤ l.length ∧ a6m okE a3m l most = a8j okE a3m (a9d l i) (l.drop i)) (fun i => l.length - i) (x5x 0 rfl Cov.nil) HE.nil 0 ⟨by omega, b3i (by omega)⟩ [] (x5x 5 rfl Cov.nil) HE.nil rfl fun i γ1 hi => ?_
 try dsimp only [List.cons_append, List.nil_append]
 obtain ⟨h1, h2⟩ := hi
 refine x8x fun K4 hK4 => ?_
 refine x7x x9x (by rfl) ?_
 refine x0x rfl ?_
 refine x0x rfl ?_
 refine v3v rfl w2w rfl ?_
 refine z0z rfl rfl rfl ?_
 refine y1y rfl (fun hc5 => ?_) (fun hc5 => ?_)
 rotate_left
 ·try simp at hc5
  obtain rfl : i = l.length := by omega
  rw [List.drop_length] at h2
  refine v7v ?_
  refine hK3 _ _ ?_
  clear hK4 K4 hK3 K3
  refine x7x x9x (by rfl) ?_
  refine x2x rfl ?_
  refine y6y ⟨.inr rfl, ?_⟩
  refine z9z rfl ?_ rfl
  exact congrArg (fun b : Bool => [AV.pv (.bool b)]) h2.symm
 try simp at hc5
 obtain ⟨p, hp⟩ : ∃ p, l[i]? = some p := s8s (by omega)
 rw [a4m hp] at h2
 refine y8y ?_
 refine hK4 _ _ ?_
 clear hK4 K4
 refine x8x fun K6 hK6 => ?_
 refine y7y ?_
 refine q5q x9x s7s (by rfl) ?_
 refine x0x rfl ?_
 refine x0x rfl ?_
 refine v0v rfl rfl w2w rfl v1v rfl hp ?_
 refine w1w rfl v1v rfl rfl ?_
 refine z7z rfl rfl rfl (a9g ..) ?_
 refine s6s rfl ?_
 refine x0x rfl ?_
 refine a0d rfl rfl (fun hg7 => ?_) (fun hg7 => ?_)
 rotate_left
 ·try simp at hg7
  have hbad : okE p = false := by simpa [okE] using hg7
  refine x4x rfl rfl ?_
  refine x4x rfl rfl ?_
  refine p7p rfl rfl ?_
  refine p7p rfl rfl ?_
  refine p7p rfl rfl ?_
  refine p7p rfl rfl ?_
  refine p7p rfl rfl ?_
  refine p7p rfl rfl ?_
  refine p7p rfl rfl ?_
  refine p7p rfl rfl ?_
  refine p7p rfl rfl ?_
  refine p7p rfl rfl ?_
  refine p7p rfl rfl ?_
  refine x4x rfl rfl ?_
  refine z4z rfl rfl ?_
  refine ⟨by kernel_rfl, ?_⟩
  refine y1y rfl (fun hc11 => ?_) (fun hc11 => ?_)
  rotate_left
  ·simp at hc11
  try simp at hc11
  try have hlt := hc11
  refine x7x x9x (by rfl) ?_
  refine x2x rfl ?_
  refine y6y ⟨.inr rfl, ?_⟩
  clear hK6 K6 hK3 K3
  refine z9z rfl ?_ rfl
  exact congrArg (fun b : Bool => [AV.pv (.bool b)]) (h2.trans (a2u _ _ hbad)).symm
 try simp at hg7
 have hok : okE p = true := by simpa [okE] using hg7
 refine x0x rfl ?_
 refine y9y rfl rfl ?_
 refine z0z rfl rfl rfl ?_
 refine y9y rfl rfl ?_
 refine x0x rfl ?_
 refine a0d rfl rfl (fun hg8 => ?_) (fun hg8 => ?_)
 rotate_left
 ·try simp at hg8
  have hi0 : i = 0 := by omega
  have hlast : a9d l i = none := by rw [hi0]; rfl
  rw [hlast] at h2
  refine x4x rfl rfl ?_
  refine x4x rfl rfl ?_
  refine x4x rfl rfl ?_
  refine x4x rfl rfl ?_
  refine x4x rfl rfl ?_
  refine x4x rfl rfl ?_
  refine x4x rfl rfl ?_
  refine x4x rfl rfl ?_
  refine x4x rfl rfl ?_
  refine x4x rfl rfl ?_
  refine y9y rfl rfl ?_
  refine x6x rfl rfl ?_
  refine x6x rfl rfl ?_
  refine ⟨by kernel_rfl, ?_⟩
  refine y1y rfl (fun hc10 => ?_) (fun hc10 => ?_)
  ·simp at hc10
  try simp at hc10
  try have hlt := hc10
  refine y8y ?_
  refine hK6 _ _ ?_
  clear hK6 K6
  refine y0y x9x (by rfl) ?_
  refine x0x rfl ?_
  refine r0r (b := 1) rfl rfl (by omega) ?_
  refine x2x rfl ?_
  exact ⟨i + 1, ⟨⟨by omega, by rw [h2]; show _ = a8j okE a3m l[i]? _; rw [hp]; exact a5j _ _ hok⟩, by omega⟩, [], (x5x 5 rfl Cov.nil), (x5x 0 rfl Cov.nil), HE.nil, HE.nil, rfl⟩
 try simp at hg8
 have hi0 : 0 < i := by omega
 obtain ⟨b, hb⟩ : ∃ b, l[i - 1]? = some b := s8s (by omega)
 have hlast : a9d l i = some b := by obtain ⟨j, rfl⟩ : ∃ j, i = j + 1 := ⟨i - 1, by omega⟩; exact hb
 rw [hlast] at h2
 refine x0x rfl ?_
 refine y9y rfl rfl ?_
 refine x0x rfl ?_
 refine y9y rfl rfl ?_
 refine a0w (b := 1) rfl rfl (by omega) (by omega) ?_
 refine y9y rfl rfl ?_
 refine v0v rfl rfl w2w rfl v1v rfl hb ?_
 refine y9y rfl rfl ?_
 refine w1w rfl v1v rfl rfl ?_
 refine y9y rfl rfl ?_
 refine x0x rfl ?_
 refine y9y rfl rfl ?_
 refine x0x rfl ?_
 refine y9y rfl rfl ?_
 refine v0v rfl rfl w2w rfl v1v rfl hp ?_
 refine y9y rfl rfl ?_
 refine w1w rfl v1v rfl rfl ?_
 refine y9y rfl rfl ?_
 refine z7z rfl rfl rfl (a3x ..) ?_
 refine y9y rfl rfl ?_
 refine s6s rfl ?_
 refine y9y rfl rfl ?_
 refine z4z rfl rfl ?_
 refine x6x rfl rfl ?_
 refine ⟨by kernel_rfl, ?_⟩
 refine y1y rfl (fun hc9 => ?_) (fun hc9 => ?_)
 rotate_left
 ·try simp at hc9
  try have hlt := hc9
  refine y8y ?_
  refine hK6 _ _ ?_
  clear hK6 K6
  refine y0y x9x (by rfl) ?_
  refine x0x rfl ?_
  refine r0r (b := 1) rfl rfl (by omega) ?_
  refine x2x rfl ?_
  exact ⟨i + 1, ⟨⟨by omega, by rw [h2]; show _ = a8j okE a3m l[i]? _; rw [hp]; exact a7h _ _ hok hlt⟩, by omega⟩, [], (x5x 5 rfl Cov.nil), (x5x 0 rfl Cov.nil), HE.nil, HE.nil, rfl⟩
 try simp at hc9
 try have hlt := hc9
 refine x7x x9x (by rfl) ?_
 refine x2x rfl ?_
 refine y6y ⟨.inr rfl, ?_⟩
 clear hK6 K6 hK3 K3
 refine z9z rfl ?_ rfl
 exact congrArg (fun b : Bool => [AV.pv (.bool b)]) (h2.trans (b3h _ _ hlt)).symm
theorem b3p (c : Bool) (l : List Ou) (most : Int) : a2g Try.prog 35 [a6n c l, .pv (.int .i64 most)] (.pv (.bool (a6m okO a7g l most))) := by
 refine u9u x9x (fn := Try.f35) (by kernel_rfl) (by kernel_rfl) rfl (outs := [.pv (.bool (a6m okO a7g l most))]) (by rfl) (u3u rfl) 1 ?_
 refine s1s 0 rfl fun hlen => ?_
 refine x7x x9x (by rfl) ?_
 refine x2x rfl ?_
 refine x8x fun K1 hK1 => ?_
 refine x7x x9x (by rfl) ?_
 refine x0x rfl ?_
 refine v3v rfl w5w rfl ?_
 refine x0x rfl ?_
 refine z0z rfl rfl rfl ?_
 refine y1y rfl (fun hc2 => ?_) (fun hc2 => ?_)
 ·try simp at hc2
  refine x7x x9x (by rfl) ?_
  refine x2x rfl ?_
  refine y6y ⟨.inr rfl, ?_⟩
  clear hK1 K1
  refine z9z rfl ?_ rfl
  exact congrArg (fun b : Bool => [AV.pv (.bool b)]) (a7i (by omega)).symm
 try simp at hc2
 refine y8y ?_
 refine hK1 _ _ ?_
 clear hK1 K1
 refine x8x fun K3 hK3 => ?_
 refine x7x x9x (by rfl) ?_
 refine x0x rfl ?_
 refine v3v rfl w5w rfl ?_
 refine x0x rfl ?_
 refine y7y ?_
 refine v9v (ι := Nat) (fun i γ1 => [(14, .pv (.int .i64 (i : Int)))]) (fun i γ1 => [(0, ((γ1 0), .dead))]) (fun i => i ≤ l.length ∧ a6m okO a7g l most = a8j okO a7g (a9d l i) (l.drop i)) (fun i => l.length - i) (x5x 0 rfl (x5x 12 rfl (x5x 13 rfl Cov.nil))) HE.nil 0 ⟨by omega, b3i (by omega)⟩ [_] (x5x 14 rfl Cov.nil) (HE.kill rfl HE.nil) rfl fun i γ1 hi => ?_
 try dsimp only [List.cons_append, List.nil_append]
 obtain ⟨h1, h2⟩ := hi
 refine x7x x9x (by rfl) ?_
 refine z0z rfl rfl rfl ?_
 refine x8x fun K4 hK4 => ?_
 refine y1y rfl (fun hc5 => ?_) (fun hc5 => ?_)
 rotate_left
 ·try simp at hc5
  obtain rfl : i = l.length := by omega
  rw [List.drop_length] at h2
  refine v7v ?_
  refine hK3 _ _ ?_
  clear hK4 K4 hK3 K3
  refine x7x x9x (by rfl) ?_
  refine x2x rfl ?_
  refine y6y ⟨.inr rfl, ?_⟩
  refine z9z rfl ?_ rfl
  exact congrArg (fun b : Bool => [AV.pv (.bool b)]) h2.symm
 try simp at hc5
 obtain ⟨p, hp⟩ : ∃ p, l[i]? = some p := s8s (by omega)
 rw [a4m hp] at h2
 refine y8y ?_
 refine hK4 _ _ ?_
 clear hK4 K4
 refine x8x fun K6 hK6 => ?_
 refine y7y ?_
 refine x7x x9x (by rfl) ?_
 refine x0x rfl ?_
 refine v0v rfl rfl w5w rfl v8v rfl hp ?_
 refine w1w rfl v8v rfl rfl ?_
 refine q0q (id := 0) v8v b4o rfl ?_
 refine x2x rfl ?_
 refine u2u rfl rfl v8v rfl rfl rfl rfl ?_
 refine b0j (ι := Unit) (fun _i γ2 => [(7, .pv (.bool (okO p)))]) (fun _i γ2 => []) (fun _i => True) (x5x 0 rfl (x5x 5 rfl (x5x 6 rfl (x5x 12 rfl (x5x 13 rfl (x5x 14 rfl Cov.nil)))))) (z2z 0 rfl HE.nil) ?_ fun _i γ2 hi => ?_
 ·refine y0y x9x (by rfl) ?_
  refine x1x rfl v8v rfl rfl y5y rfl rfl ?_
  refine x3x rfl y5y rfl rfl ?_
  refine z7z rfl rfl rfl (w3w ..) ?_
  refine x0x rfl ?_
  refine a0d rfl rfl (fun hg7 => ?_) (fun hg7 => ?_)
  rotate_left
  ·try simp at hg7
   refine x4x rfl rfl ?_
   refine x4x rfl rfl ?_
   refine x6x rfl rfl ?_
   refine x0x rfl ?_
   refine x4x rfl rfl ?_
   refine x4x rfl rfl ?_
   refine x4x rfl rfl ?_
   refine x6x rfl rfl ?_
   refine x0x rfl ?_
   refine x4x rfl rfl ?_
   refine x4x rfl rfl ?_
   refine x4x rfl rfl ?_
   refine x6x rfl rfl ?_
   refine x0x rfl ?_
   refine x4x rfl rfl ?_
   refine x4x rfl rfl ?_
   refine x4x rfl rfl ?_
   refine x6x rfl rfl ?_
   refine x2x rfl ?_
   exact ⟨(), trivial, [], (Cov.cons' (t := 7) rfl (by exact congrArg (fun b : Bool => AV.pv (.bool b)) (decide_eq_false (by unfold b6t; omega)).symm) Cov.nil), (x5x 0 rfl (x5x 5 rfl (x5x 6 rfl (x5x 12 rfl (x5x 13 rfl (x5x 14 rfl Cov.nil)))))), HE.nil, (z2z 0 rfl HE.nil), rfl⟩
  try simp at hg7
  refine x1x rfl v8v rfl rfl y5y rfl rfl ?_
  refine y9y rfl rfl ?_
  refine x3x rfl y5y rfl rfl ?_
  refine y9y rfl rfl ?_
  refine z7z rfl rfl rfl (a7m ..) ?_
  refine z4z rfl rfl ?_
  refine x0x rfl ?_
  refine a0d rfl rfl (fun hg8 => ?_) (fun hg8 => ?_)
  rotate_left
  ·try simp at hg8
   refine x4x rfl rfl ?_
   refine x4x rfl rfl ?_
   refine x6x rfl rfl ?_
   refine x0x rfl ?_
   refine x4x rfl rfl ?_
   refine x4x rfl rfl ?_
   refine x4x rfl rfl ?_
   refine x6x rfl rfl ?_
   refine x0x rfl ?_
   refine x4x rfl rfl ?_
   refine x4x rfl rfl ?_
   refine x4x rfl rfl ?_
   refine x6x rfl rfl ?_
   refine x2x rfl ?_
   exact ⟨(), trivial, [], (Cov.cons' (t := 7) rfl (by exact congrArg (fun b : Bool => AV.pv (.bool b)) (decide_eq_false (by unfold b6t; omega)).symm) Cov.nil), (x5x 0 rfl (x5x 5 rfl (x5x 6 rfl (x5x 12 rfl (x5x 13 rfl (x5x 14 rfl Cov.nil)))))), HE.nil, (z2z 0 rfl HE.nil), rfl⟩
  try simp at hg8
  refine x1x rfl v8v rfl rfl y5y rfl rfl ?_
  refine y9y rfl rfl ?_
  refine x3x rfl y5y rfl rfl ?_
  refine y9y rfl rfl ?_
  refine z7z rfl rfl rfl (w3w ..) ?_
  refine z4z rfl rfl ?_
  refine x0x rfl ?_
  refine a0d rfl rfl (fun hg9 => ?_) (fun hg9 => ?_)
  rotate_left
  ·try simp at hg9
   refine x4x rfl rfl ?_
   refine x4x rfl rfl ?_
   refine x6x rfl rfl ?_
   refine x0x rfl ?_
   refine x4x rfl rfl ?_
   refine x4x rfl rfl ?_
   refine x4x rfl rfl ?_
   refine x6x rfl rfl ?_
   refine x2x rfl ?_
   exact ⟨(), trivial, [], (Cov.cons' (t := 7) rfl (by exact congrArg (fun b : Bool => AV.pv (.bool b)) (decide_eq_false (by unfold b6t; omega)).symm) Cov.nil), (x5x 0 rfl (x5x 5 rfl (x5x 6 rfl (x5x 12 rfl (x5x 13 rfl (x5x 14 rfl Cov.nil)))))), HE.nil, (z2z 0 rfl HE.nil), rfl⟩
  try simp at hg9
  refine x1x rfl v8v rfl rfl y5y rfl rfl ?_
  refine y9y rfl rfl ?_
  refine x3x rfl y5y rfl rfl ?_
  refine y9y rfl rfl ?_
  refine z7z rfl rfl rfl (w3w ..) ?_
  refine z4z rfl rfl ?_
  refine x0x rfl ?_
  refine a0d rfl rfl (fun hg10 => ?_) (fun hg10 => ?_)
  rotate_left
  ·try simp at hg10
   refine x4x rfl rfl ?_
   refine x4x rfl rfl ?_
   refine x6x rfl rfl ?_
   refine x2x rfl ?_
   exact ⟨(), trivial, [], (Cov.cons' (t := 7) rfl (by exact congrArg (fun b : Bool => AV.pv (.bool b)) (decide_eq_false (by unfold b6t; omega)).symm) Cov.nil), (x5x 0 rfl (x5x 5 rfl (x5x 6 rfl (x5x 12 rfl (x5x 13 rfl (x5x 14 rfl Cov.nil)))))), HE.nil, (z2z 0 rfl HE.nil), rfl⟩
  try simp at hg10
  refine x1x rfl v8v rfl rfl y5y rfl rfl ?_
  refine y9y rfl rfl ?_
  refine x3x rfl y5y rfl rfl ?_
  refine y9y rfl rfl ?_
  refine z7z rfl rfl rfl (a9b ..) ?_
  refine z4z rfl rfl ?_
  refine x2x rfl ?_
  exact ⟨(), trivial, [], (Cov.cons' (t := 7) rfl (by exact congrArg (fun b : Bool => AV.pv (.bool b)) (decide_eq_decide.2 (by unfold b6t; omega))) Cov.nil), (x5x 0 rfl (x5x 5 rfl (x5x 6 rfl (x5x 12 rfl (x5x 13 rfl (x5x 14 rfl Cov.nil)))))), HE.nil, (z2z 0 rfl HE.nil), rfl⟩
 ·try dsimp only [List.cons_append, List.nil_append]
  refine q5q x9x s7s (by rfl) ?_
  refine x0x rfl ?_
  refine s6s rfl ?_
  refine x0x rfl ?_
  refine a0d rfl rfl (fun hg11 => ?_) (fun hg11 => ?_)
  rotate_left
  ·try simp at hg11
   have hbad : okO p = false := by simpa [okO] using hg11
   refine x4x rfl rfl ?_
   refine x4x rfl rfl ?_
   refine p7p rfl rfl ?_
   refine p7p rfl rfl ?_
   refine p7p rfl rfl ?_
   refine p7p rfl rfl ?_
   refine p7p rfl rfl ?_
   refine p7p rfl rfl ?_
   refine p7p rfl rfl ?_
   refine p7p rfl rfl ?_
   refine x4x rfl rfl ?_
   refine z4z rfl rfl ?_
   refine ⟨by kernel_rfl, ?_⟩
   refine y1y rfl (fun hc15 => ?_) (fun hc15 => ?_)
   rotate_left
   ·simp at hc15
   try simp at hc15
   try have hlt := hc15
   refine x7x x9x (by rfl) ?_
   refine x2x rfl ?_
   refine y6y ⟨.inr rfl, ?_⟩
   clear hK6 K6 hK3 K3
   refine z9z rfl ?_ rfl
   exact congrArg (fun b : Bool => [AV.pv (.bool b)]) (h2.trans (a2u _ _ hbad)).symm
  try simp at hg11
  have hok : okO p = true := by simpa [okO] using hg11
  refine x0x rfl ?_
  refine y9y rfl rfl ?_
  refine z0z rfl rfl rfl ?_
  refine y9y rfl rfl ?_
  refine x0x rfl ?_
  refine a0d rfl rfl (fun hg12 => ?_) (fun hg12 => ?_)
  rotate_left
  ·try simp at hg12
   have hi0 : i = 0 := by omega
   have hlast : a9d l i = none := by rw [hi0]; rfl
   rw [hlast] at h2
   refine x4x rfl rfl ?_
   refine x4x rfl rfl ?_
   refine x4x rfl rfl ?_
   refine x4x rfl rfl ?_
   refine x4x rfl rfl ?_
   refine x4x rfl rfl ?_
   refine x4x rfl rfl ?_
   refine y9y rfl rfl ?_
   refine x6x rfl rfl ?_
   refine x6x rfl rfl ?_
   refine ⟨by kernel_rfl, ?_⟩
   refine y1y rfl (fun hc14 => ?_) (fun hc14 => ?_)
   ·simp at hc14
   try simp at hc14
   try have hlt := hc14
   refine y8y ?_
   refine hK6 _ _ ?_
   clear hK6 K6
   refine y0y x9x (by rfl) ?_
   refine r0r (b := 1) rfl rfl (by omega) ?_
   refine x0x rfl ?_
   exact ⟨i + 1, ⟨⟨by omega, by rw [h2]; show _ = a8j okO a7g l[i]? _; rw [hp]; exact a5j _ _ hok⟩, by omega⟩, [_], (x5x 14 rfl Cov.nil), (x5x 0 rfl (x5x 12 rfl (x5x 13 rfl Cov.nil))), (HE.kill rfl HE.nil), HE.nil, rfl⟩
  try simp at hg12
  have hi0 : 0 < i := by omega
  obtain ⟨b, hb⟩ : ∃ b, l[i - 1]? = some b := s8s (by omega)
  have hlast : a9d l i = some b := by obtain ⟨j, rfl⟩ : ∃ j, i = j + 1 := ⟨i - 1, by omega⟩; exact hb
  rw [hlast] at h2
  refine x0x rfl ?_
  refine y9y rfl rfl ?_
  refine x0x rfl ?_
  refine y9y rfl rfl ?_
  refine a0w (b := 1) rfl rfl (by omega) (by omega) ?_
  refine y9y rfl rfl ?_
  refine v0v rfl rfl w5w rfl v8v rfl hb ?_
  refine y9y rfl rfl ?_
  refine w1w rfl v8v rfl rfl ?_
  refine y9y rfl rfl ?_
  refine z3z rfl v8v rfl rfl rfl ?_
  refine y9y rfl rfl ?_
  refine z7z rfl rfl rfl (b1n ..) ?_
  refine y9y rfl rfl ?_
  refine s6s rfl ?_
  refine y9y rfl rfl ?_
  refine z4z rfl rfl ?_
  refine x6x rfl rfl ?_
  refine ⟨by kernel_rfl, ?_⟩
  refine y1y rfl (fun hc13 => ?_) (fun hc13 => ?_)
  rotate_left
  ·try simp at hc13
   try have hlt := hc13
   refine y8y ?_
   refine hK6 _ _ ?_
   clear hK6 K6
   refine y0y x9x (by rfl) ?_
   refine r0r (b := 1) rfl rfl (by omega) ?_
   refine x0x rfl ?_
   exact ⟨i + 1, ⟨⟨by omega, by rw [h2]; show _ = a8j okO a7g l[i]? _; rw [hp]; exact a7h _ _ hok hlt⟩, by omega⟩, [_], (x5x 14 rfl Cov.nil), (x5x 0 rfl (x5x 12 rfl (x5x 13 rfl Cov.nil))), (HE.kill rfl HE.nil), HE.nil, rfl⟩
  try simp at hc13
  try have hlt := hc13
  refine x7x x9x (by rfl) ?_
  refine x2x rfl ?_
  refine y6y ⟨.inr rfl, ?_⟩
  clear hK6 K6 hK3 K3
  refine z9z rfl ?_ rfl
  exact congrArg (fun b : Bool => [AV.pv (.bool b)]) (h2.trans (b3h _ _ hlt)).symm
theorem b3q (c : Bool) (l : List Ou) (most : Int) : a2g Try.prog 78 [a6n c l, .pv (.int .i64 most)] (.pv (.bool (a6m okO a7g l most))) := by
 refine u9u x9x (fn := Try.f78) (by kernel_rfl) (by kernel_rfl) rfl (outs := [.pv (.bool (a6m okO a7g l most))]) (by rfl) (u3u rfl) 1 ?_
 refine s1s 0 rfl fun hlen => ?_
 refine x7x x9x (by rfl) ?_
 refine x2x rfl ?_
 refine x8x fun K1 hK1 => ?_
 refine x7x x9x (by rfl) ?_
 refine x0x rfl ?_
 refine v3v rfl w5w rfl ?_
 refine x0x rfl ?_
 refine z0z rfl rfl rfl ?_
 refine y1y rfl (fun hc2 => ?_) (fun hc2 => ?_)
 ·try simp at hc2
  refine x7x x9x (by rfl) ?_
  refine x2x rfl ?_
  refine y6y ⟨.inr rfl, ?_⟩
  clear hK1 K1
  refine z9z rfl ?_ rfl
  exact congrArg (fun b : Bool => [AV.pv (.bool b)]) (a7i (by omega)).symm
 try simp at hc2
 refine y8y ?_
 refine hK1 _ _ ?_
 clear hK1 K1
 refine x8x fun K3 hK3 => ?_
 refine x7x x9x (by rfl) ?_
 refine x2x rfl ?_
 refine y7y ?_
 refine v9v (ι := Nat) (fun i γ1 => [(5, .pv (.int .i64 (i : Int)))]) (fun i γ1 => [(0, ((γ1 0), .dead))]) (fun i => i ≤ l.length ∧ a6m okO a7g l most = a8j okO a7g (a9d l i) (l.drop i)) (fun i => l.length - i) (x5x 0 rfl Cov.nil) HE.nil 0 ⟨by omega, b3i (by omega)⟩ [_] (x5x 5 rfl Cov.nil) (HE.kill rfl HE.nil) rfl fun i γ1 hi => ?_
 try dsimp only [List.cons_append, List.nil_append]
 obtain ⟨h1, h2⟩ := hi
 refine x8x fun K4 hK4 => ?_
 refine x7x x9x (by rfl) ?_
 refine x0x rfl ?_
 refine x0x rfl ?_
 refine v3v rfl w5w rfl ?_
 refine z0z rfl rfl rfl ?_
 refine y1y rfl (fun hc5 => ?_) (fun hc5 => ?_)
 rotate_left
 ·try simp at hc5
  obtain rfl : i = l.length := by omega
  rw [List.drop_length] at h2
  refine v7v ?_
  refine hK3 _ _ ?_
  clear hK4 K4 hK3 K3
  refine x7x x9x (by rfl) ?_
  refine x2x rfl ?_
  refine y6y ⟨.inr rfl, ?_⟩
  refine z9z rfl ?_ rfl
  exact congrArg (fun b : Bool => [AV.pv (.bool b)]) h2.symm
 try simp at hc5
 obtain ⟨p, hp⟩ : ∃ p, l[i]? = some p := s8s (by omega)
 rw [a4m hp] at h2
 refine y8y ?_
 refine hK4 _ _ ?_
 clear hK4 K4
 refine x8x fun K6 hK6 => ?_
 refine y7y ?_
 refine x7x x9x (by rfl) ?_
 refine x0x rfl ?_
 refine x0x rfl ?_
 refine v0v rfl rfl w5w rfl v8v rfl hp ?_
 refine w1w rfl v8v rfl rfl ?_
 refine q0q (id := 0) v8v b4o rfl ?_
 refine u2u rfl rfl v8v rfl rfl rfl rfl ?_
 refine q5q x9x s7s (by rfl) ?_
 refine x1x rfl v8v rfl rfl y5y rfl rfl ?_
 refine x3x rfl y5y rfl rfl ?_
 refine z7z rfl rfl rfl (p4p ..) ?_
 refine s6s rfl ?_
 refine x0x rfl ?_
 refine a0d rfl rfl (fun hg7 => ?_) (fun hg7 => ?_)
 rotate_left
 ·try simp at hg7
  refine x4x rfl rfl ?_
  refine x4x rfl rfl ?_
  refine x4x rfl rfl ?_
  refine z4z rfl rfl ?_
  refine x0x rfl ?_
  refine x4x rfl rfl ?_
  refine x4x rfl rfl ?_
  refine x4x rfl rfl ?_
  refine x4x rfl rfl ?_
  refine z4z rfl rfl ?_
  refine x0x rfl ?_
  refine x4x rfl rfl ?_
  refine x4x rfl rfl ?_
  refine x4x rfl rfl ?_
  refine x4x rfl rfl ?_
  refine z4z rfl rfl ?_
  refine x0x rfl ?_
  refine x4x rfl rfl ?_
  refine x4x rfl rfl ?_
  refine x4x rfl rfl ?_
  refine x4x rfl rfl ?_
  refine z4z rfl rfl ?_
  refine x0x rfl ?_
  refine x4x rfl rfl ?_
  refine x4x rfl rfl ?_
  refine x4x rfl rfl ?_
  refine p7p rfl rfl ?_
  refine p7p rfl rfl ?_
  refine p7p rfl rfl ?_
  refine p7p rfl rfl ?_
  refine p7p rfl rfl ?_
  refine p7p rfl rfl ?_
  refine p7p rfl rfl ?_
  refine p7p rfl rfl ?_
  refine x4x rfl rfl ?_
  refine z4z rfl rfl ?_
  refine ⟨by kernel_rfl, ?_⟩
  refine y1y rfl (fun hc19 => ?_) (fun hc19 => ?_)
  rotate_left
  ·simp at hc19
  try simp at hc19
  try have hlt := hc19
  refine x7x x9x (by rfl) ?_
  refine x2x rfl ?_
  refine y6y ⟨.inr rfl, ?_⟩
  clear hK6 K6 hK3 K3
  refine z9z rfl ?_ rfl
  exact congrArg (fun b : Bool => [AV.pv (.bool b)]) (h2.trans (a2u _ _ (decide_eq_false (by unfold b6t; omega)))).symm
 try simp at hg7
 refine x1x rfl v8v rfl rfl y5y rfl rfl ?_
 refine y9y rfl rfl ?_
 refine x3x rfl y5y rfl rfl ?_
 refine y9y rfl rfl ?_
 refine z7z rfl rfl rfl (a7n ..) ?_
 refine y9y rfl rfl ?_
 refine s6s rfl ?_
 refine x6x rfl rfl ?_
 refine x0x rfl ?_
 refine a0d rfl rfl (fun hg8 => ?_) (fun hg8 => ?_)
 rotate_left
 ·try simp at hg8
  refine x4x rfl rfl ?_
  refine x4x rfl rfl ?_
  refine x4x rfl rfl ?_
  refine z4z rfl rfl ?_
  refine x0x rfl ?_
  refine x4x rfl rfl ?_
  refine x4x rfl rfl ?_
  refine x4x rfl rfl ?_
  refine x4x rfl rfl ?_
  refine z4z rfl rfl ?_
  refine x0x rfl ?_
  refine x4x rfl rfl ?_
  refine x4x rfl rfl ?_
  refine x4x rfl rfl ?_
  refine x4x rfl rfl ?_
  refine z4z rfl rfl ?_
  refine x0x rfl ?_
  refine x4x rfl rfl ?_
  refine x4x rfl rfl ?_
  refine x4x rfl rfl ?_
  refine p7p rfl rfl ?_
  refine p7p rfl rfl ?_
  refine p7p rfl rfl ?_
  refine p7p rfl rfl ?_
  refine p7p rfl rfl ?_
  refine p7p rfl rfl ?_
  refine p7p rfl rfl ?_
  refine p7p rfl rfl ?_
  refine x4x rfl rfl ?_
  refine z4z rfl rfl ?_
  refine ⟨by kernel_rfl, ?_⟩
  refine y1y rfl (fun hc18 => ?_) (fun hc18 => ?_)
  rotate_left
  ·simp at hc18
  try simp at hc18
  try have hlt := hc18
  refine x7x x9x (by rfl) ?_
  refine x2x rfl ?_
  refine y6y ⟨.inr rfl, ?_⟩
  clear hK6 K6 hK3 K3
  refine z9z rfl ?_ rfl
  exact congrArg (fun b : Bool => [AV.pv (.bool b)]) (h2.trans (a2u _ _ (decide_eq_false (by unfold b6t; omega)))).symm
 try simp at hg8
 refine x1x rfl v8v rfl rfl y5y rfl rfl ?_
 refine y9y rfl rfl ?_
 refine x3x rfl y5y rfl rfl ?_
 refine y9y rfl rfl ?_
 refine z7z rfl rfl rfl (p4p ..) ?_
 refine y9y rfl rfl ?_
 refine s6s rfl ?_
 refine x6x rfl rfl ?_
 refine x0x rfl ?_
 refine a0d rfl rfl (fun hg9 => ?_) (fun hg9 => ?_)
 rotate_left
 ·try simp at hg9
  refine x4x rfl rfl ?_
  refine x4x rfl rfl ?_
  refine x4x rfl rfl ?_
  refine z4z rfl rfl ?_
  refine x0x rfl ?_
  refine x4x rfl rfl ?_
  refine x4x rfl rfl ?_
  refine x4x rfl rfl ?_
  refine x4x rfl rfl ?_
  refine z4z rfl rfl ?_
  refine x0x rfl ?_
  refine x4x rfl rfl ?_
  refine x4x rfl rfl ?_
  refine x4x rfl rfl ?_
  refine p7p rfl rfl ?_
  refine p7p rfl rfl ?_
  refine p7p rfl rfl ?_
  refine p7p rfl rfl ?_
  refine p7p rfl rfl ?_
  refine p7p rfl rfl ?_
  refine p7p rfl rfl ?_
  refine p7p rfl rfl ?_
  refine x4x rfl rfl ?_
  refine z4z rfl rfl ?_
  refine ⟨by kernel_rfl, ?_⟩
  refine y1y rfl (fun hc17 => ?_) (fun hc17 => ?_)
  rotate_left
  ·simp at hc17
  try simp at hc17
  try have hlt := hc17
  refine x7x x9x (by rfl) ?_
  refine x2x rfl ?_
  refine y6y ⟨.inr rfl, ?_⟩
  clear hK6 K6 hK3 K3
  refine z9z rfl ?_ rfl
  exact congrArg (fun b : Bool => [AV.pv (.bool b)]) (h2.trans (a2u _ _ (decide_eq_false (by unfold b6t; omega)))).symm
 try simp at hg9
 refine x1x rfl v8v rfl rfl y5y rfl rfl ?_
 refine y9y rfl rfl ?_
 refine x3x rfl y5y rfl rfl ?_
 refine y9y rfl rfl ?_
 refine z7z rfl rfl rfl (p4p ..) ?_
 refine y9y rfl rfl ?_
 refine s6s rfl ?_
 refine x6x rfl rfl ?_
 refine x0x rfl ?_
 refine a0d rfl rfl (fun hg10 => ?_) (fun hg10 => ?_)
 rotate_left
 ·try simp at hg10
  refine x4x rfl rfl ?_
  refine x4x rfl rfl ?_
  refine x4x rfl rfl ?_
  refine z4z rfl rfl ?_
  refine x0x rfl ?_
  refine x4x rfl rfl ?_
  refine x4x rfl rfl ?_
  refine x4x rfl rfl ?_
  refine p7p rfl rfl ?_
  refine p7p rfl rfl ?_
  refine p7p rfl rfl ?_
  refine p7p rfl rfl ?_
  refine p7p rfl rfl ?_
  refine p7p rfl rfl ?_
  refine p7p rfl rfl ?_
  refine p7p rfl rfl ?_
  refine x4x rfl rfl ?_
  refine z4z rfl rfl ?_
  refine ⟨by kernel_rfl, ?_⟩
  refine y1y rfl (fun hc16 => ?_) (fun hc16 => ?_)
  rotate_left
  ·simp at hc16
  try simp at hc16
  try have hlt := hc16
  refine x7x x9x (by rfl) ?_
  refine x2x rfl ?_
  refine y6y ⟨.inr rfl, ?_⟩
  clear hK6 K6 hK3 K3
  refine z9z rfl ?_ rfl
  exact congrArg (fun b : Bool => [AV.pv (.bool b)]) (h2.trans (a2u _ _ (decide_eq_false (by unfold b6t; omega)))).symm
 try simp at hg10
 refine x1x rfl v8v rfl rfl y5y rfl rfl ?_
 refine y9y rfl rfl ?_
 refine x3x rfl y5y rfl rfl ?_
 refine y9y rfl rfl ?_
 refine z7z rfl rfl rfl (a9c ..) ?_
 refine y9y rfl rfl ?_
 refine s6s rfl ?_
 refine x6x rfl rfl ?_
 refine x0x rfl ?_
 refine a0d rfl rfl (fun hg11 => ?_) (fun hg11 => ?_)
 rotate_left
 ·try simp at hg11
  refine x4x rfl rfl ?_
  refine x4x rfl rfl ?_
  refine p7p rfl rfl ?_
  refine p7p rfl rfl ?_
  refine p7p rfl rfl ?_
  refine p7p rfl rfl ?_
  refine p7p rfl rfl ?_
  refine p7p rfl rfl ?_
  refine p7p rfl rfl ?_
  refine p7p rfl rfl ?_
  refine x4x rfl rfl ?_
  refine z4z rfl rfl ?_
  refine ⟨by kernel_rfl, ?_⟩
  refine y1y rfl (fun hc15 => ?_) (fun hc15 => ?_)
  rotate_left
  ·simp at hc15
  try simp at hc15
  try have hlt := hc15
  refine x7x x9x (by rfl) ?_
  refine x2x rfl ?_
  refine y6y ⟨.inr rfl, ?_⟩
  clear hK6 K6 hK3 K3
  refine z9z rfl ?_ rfl
  exact congrArg (fun b : Bool => [AV.pv (.bool b)]) (h2.trans (a2u _ _ (decide_eq_false (by unfold b6t; omega)))).symm
 try simp at hg11
 have hok : okO p = true := decide_eq_true (by unfold b6t; omega)
 refine x0x rfl ?_
 refine y9y rfl rfl ?_
 refine z0z rfl rfl rfl ?_
 refine y9y rfl rfl ?_
 refine x0x rfl ?_
 refine a0d rfl rfl (fun hg12 => ?_) (fun hg12 => ?_)
 rotate_left
 ·try simp at hg12
  have hi0 : i = 0 := by omega
  have hlast : a9d l i = none := by rw [hi0]; rfl
  rw [hlast] at h2
  refine x4x rfl rfl ?_
  refine x4x rfl rfl ?_
  refine x4x rfl rfl ?_
  refine x4x rfl rfl ?_
  refine x4x rfl rfl ?_
  refine x4x rfl rfl ?_
  refine x4x rfl rfl ?_
  refine y9y rfl rfl ?_
  refine x6x rfl rfl ?_
  refine x6x rfl rfl ?_
  refine ⟨by kernel_rfl, ?_⟩
  refine y1y rfl (fun hc14 => ?_) (fun hc14 => ?_)
  ·simp at hc14
  try simp at hc14
  try have hlt := hc14
  refine y8y ?_
  refine hK6 _ _ ?_
  clear hK6 K6
  refine y0y x9x (by rfl) ?_
  refine x0x rfl ?_
  refine r0r (b := 1) rfl rfl (by omega) ?_
  refine x2x rfl ?_
  exact ⟨i + 1, ⟨⟨by omega, by rw [h2]; show _ = a8j okO a7g l[i]? _; rw [hp]; exact a5j _ _ hok⟩, by omega⟩, [_], (x5x 5 rfl Cov.nil), (x5x 0 rfl Cov.nil), (HE.kill rfl HE.nil), HE.nil, rfl⟩
 try simp at hg12
 have hi0 : 0 < i := by omega
 obtain ⟨b, hb⟩ : ∃ b, l[i - 1]? = some b := s8s (by omega)
 have hlast : a9d l i = some b := by obtain ⟨j, rfl⟩ : ∃ j, i = j + 1 := ⟨i - 1, by omega⟩; exact hb
 rw [hlast] at h2
 refine x0x rfl ?_
 refine y9y rfl rfl ?_
 refine x0x rfl ?_
 refine y9y rfl rfl ?_
 refine a0w (b := 1) rfl rfl (by omega) (by omega) ?_
 refine y9y rfl rfl ?_
 refine v0v rfl rfl w5w rfl v8v rfl hb ?_
 refine y9y rfl rfl ?_
 refine w1w rfl v8v rfl rfl ?_
 refine y9y rfl rfl ?_
 refine z3z rfl v8v rfl rfl rfl ?_
 refine y9y rfl rfl ?_
 refine z7z rfl rfl rfl (a5z ..) ?_
 refine y9y rfl rfl ?_
 refine s6s rfl ?_
 refine y9y rfl rfl ?_
 refine z4z rfl rfl ?_
 refine x6x rfl rfl ?_
 refine ⟨by kernel_rfl, ?_⟩
 refine y1y rfl (fun hc13 => ?_) (fun hc13 => ?_)
 rotate_left
 ·try simp at hc13
  try have hlt := hc13
  refine y8y ?_
  refine hK6 _ _ ?_
  clear hK6 K6
  refine y0y x9x (by rfl) ?_
  refine x0x rfl ?_
  refine r0r (b := 1) rfl rfl (by omega) ?_
  refine x2x rfl ?_
  exact ⟨i + 1, ⟨⟨by omega, by rw [h2]; show _ = a8j okO a7g l[i]? _; rw [hp]; exact a7h _ _ hok hlt⟩, by omega⟩, [_], (x5x 5 rfl Cov.nil), (x5x 0 rfl Cov.nil), (HE.kill rfl HE.nil), HE.nil, rfl⟩
 try simp at hc13
 try have hlt := hc13
 refine x7x x9x (by rfl) ?_
 refine x2x rfl ?_
 refine y6y ⟨.inr rfl, ?_⟩
 clear hK6 K6 hK3 K3
 refine z9z rfl ?_ rfl
 exact congrArg (fun b : Bool => [AV.pv (.bool b)]) (h2.trans (b3h _ _ hlt)).symm
end
section
theorem b1o (c : Bool) (l : List Ou) (hl : l.length ≤ 1000000) : a2g Try.prog 56 [a6n c l] (a6n true (a1d l)) := by
 refine u9u x9x (fn := Try.f56) (by kernel_rfl) (by kernel_rfl) rfl (outs := [a6n true (a1d l)]) (by rfl) (u3u rfl) 6 ?_
 refine x7x x9x (by rfl) ?_
 refine x2x rfl ?_
 refine x7x x9x (by rfl) ?_
 refine a1x (id := 0) w5w rfl v8v rfl ?_
 refine x2x rfl ?_
 refine x8x fun K1 hK1 => ?_
 refine x7x x9x (by rfl) ?_
 refine x2x rfl ?_
 refine y7y ?_
 refine a0z (l := ([] : List Ou)) (f := a2c) 3 rfl rfl (fun _ => rfl) ?_
 refine v9v (ι := Nat) (fun i γ1 => [(3, a6n true (a1d (l.take i))), (4, .pv (.int .i64 (i : Int)))]) (fun i γ1 => [(1, ((γ1 1), .dead)), (2, ((γ1 2), .dead)), (3, ((γ1 3), .dead)), (4, ((γ1 4), .dead)), (5, ((γ1 5), .dead))]) (fun i => i ≤ l.length) (fun i => l.length - i) (x5x 0 rfl Cov.nil) (z2z 0 rfl HE.nil) 0 (by omega) [0, _, _, _, _, _] (Cov.cons' (t := 3) rfl (by rw [List.take_zero]; rfl) (x5x 4 rfl Cov.nil)) (HE.kill rfl (HE.kill rfl (HE.kill rfl (HE.kill rfl (HE.kill rfl HE.nil))))) rfl fun i γ1 hi => ?_
 try dsimp only [List.cons_append, List.nil_append]
 refine x8x fun K2 hK2 => ?_
 refine x7x x9x (by rfl) ?_
 refine x0x rfl ?_
 refine x0x rfl ?_
 refine v3v rfl w5w rfl ?_
 refine z0z rfl rfl rfl ?_
 refine y1y rfl (fun hc3 => ?_) (fun hc3 => ?_)
 rotate_left
 ·try simp at hc3
  obtain rfl : i = l.length := by omega
  refine v7v ?_
  refine hK1 _ _ ?_
  clear hK2 K2 hK1 K1
  refine x7x x9x (by rfl) ?_
  refine x0x rfl ?_
  refine x2x rfl ?_
  refine y6y ⟨.inr rfl, ?_⟩
  refine z9z rfl ?_ rfl
  exact congrArg (fun l : List Ou => [a6n true l]) (by rw [List.take_length])
 try simp at hc3
 obtain ⟨x, hx⟩ : ∃ x, l[i]? = some x := s8s (by omega)
 have hol : (a1d (l.take i)).length ≤ 1000000 := by rw [b8v, List.length_take]; omega
 refine y8y ?_
 refine hK2 _ _ ?_
 clear hK2 K2
 refine x8x fun K4 hK4 => ?_
 refine y7y ?_
 refine x7x x9x (by rfl) ?_
 refine x0x rfl ?_
 refine v3v rfl w5w rfl ?_
 refine x2x rfl ?_
 refine b0j (ι := Nat) (fun k γ2 => [(5, .pv (.int .i64 (k : Int)))]) (fun k γ2 => []) (fun k => k ≤ (a1d (l.take i)).length ∧ (∀ (j : Nat) y, k ≤ j → (a1d (l.take i))[j]? = some y → a7g x y = true) ∧ (∀ y, 0 < k → (a1d (l.take i))[k - 1]? = some y → a7g x y = false)) (x5x 0 rfl (x5x 3 rfl (x5x 4 rfl Cov.nil))) (z2z 0 rfl (z2z 1 rfl (z2z 2 rfl (z2z 3 rfl (z2z 4 rfl (z2z 5 rfl HE.nil)))))) ?_ fun k γ2 hi => ?_
 ·refine y7y ?_
  refine v9v (ι := Nat) (fun k γ3 => [(5, .pv (.int .i64 (k : Int)))]) (fun k γ3 => []) (fun k => k ≤ (a1d (l.take i)).length ∧ (∀ (j : Nat) y, k ≤ j → (a1d (l.take i))[j]? = some y → a7g x y = true)) (fun k => k) (x5x 0 rfl (x5x 3 rfl (x5x 4 rfl Cov.nil))) (z2z 0 rfl (z2z 1 rfl (z2z 2 rfl (z2z 3 rfl (z2z 4 rfl (z2z 5 rfl HE.nil)))))) (a1d (l.take i)).length ⟨Nat.le_refl _, fun j y hj hy => by have := (List.getElem?_eq_some_iff.1 hy).1; omega⟩ [] (x5x 5 rfl Cov.nil) HE.nil rfl fun k γ3 hi => ?_
  try dsimp only [List.cons_append, List.nil_append]
  obtain ⟨k1, k2⟩ := hi
  refine x8x fun K5 hK5 => ?_
  refine q5q x9x s7s (by rfl) ?_
  refine x0x rfl ?_
  refine z0z rfl rfl rfl ?_
  refine x0x rfl ?_
  refine a0d rfl rfl (fun hg6 => ?_) (fun hg6 => ?_)
  rotate_left
  ·try simp at hg6
   have k0 : k = 0 := by omega
   refine x4x rfl rfl ?_
   refine x4x rfl rfl ?_
   refine x4x rfl rfl ?_
   refine x4x rfl rfl ?_
   refine x4x rfl rfl ?_
   refine x4x rfl rfl ?_
   refine x4x rfl rfl ?_
   refine x4x rfl rfl ?_
   refine x4x rfl rfl ?_
   refine x6x rfl rfl ?_
   refine ⟨by kernel_rfl, ?_⟩
   refine y1y rfl (fun hc8 => ?_) (fun hc8 => ?_)
   ·simp at hc8
   try simp at hc8
   try have hlt := hc8
   refine v7v ?_
   exact ⟨k, ⟨k1, k2, fun y2 h0 h2 => by omega⟩, [], (x5x 5 rfl Cov.nil), (x5x 0 rfl (x5x 3 rfl (x5x 4 rfl Cov.nil))), HE.nil, (z2z 0 rfl (z2z 1 rfl (z2z 2 rfl (z2z 3 rfl (z2z 4 rfl (z2z 5 rfl HE.nil)))))), rfl⟩
  try simp at hg6
  have k0 : 0 < k := by omega
  obtain ⟨y, hy⟩ : ∃ y, (a1d (l.take i))[k - 1]? = some y := s8s (by omega)
  refine x0x rfl ?_
  refine y9y rfl rfl ?_
  refine x0x rfl ?_
  refine y9y rfl rfl ?_
  refine v0v rfl rfl w5w rfl v8v rfl hx ?_
  refine y9y rfl rfl ?_
  refine w1w rfl v8v rfl rfl ?_
  refine y9y rfl rfl ?_
  refine x0x rfl ?_
  refine y9y rfl rfl ?_
  refine x0x rfl ?_
  refine y9y rfl rfl ?_
  refine a0w (b := 1) rfl rfl (by omega) (by omega) ?_
  refine y9y rfl rfl ?_
  refine v0v rfl rfl w5w rfl v8v rfl hy ?_
  refine y9y rfl rfl ?_
  refine w1w rfl v8v rfl rfl ?_
  refine y9y rfl rfl ?_
  refine z7z rfl rfl rfl (a5z ..) ?_
  refine z4z rfl rfl ?_
  refine ⟨by kernel_rfl, ?_⟩
  refine y1y rfl (fun hc7 => ?_) (fun hc7 => ?_)
  rotate_left
  ·try simp at hc7
   try have hlt := hc7
   refine v7v ?_
   exact ⟨k, ⟨k1, k2, fun y2 h0 h2 => by (rw [hy] at h2; cases h2; exact hlt)⟩, [], (x5x 5 rfl Cov.nil), (x5x 0 rfl (x5x 3 rfl (x5x 4 rfl Cov.nil))), HE.nil, (z2z 0 rfl (z2z 1 rfl (z2z 2 rfl (z2z 3 rfl (z2z 4 rfl (z2z 5 rfl HE.nil)))))), rfl⟩
  try simp at hc7
  try have hlt := hc7
  refine y8y ?_
  refine hK5 _ _ ?_
  clear hK5 K5
  refine y7y ?_
  refine y0y x9x (by rfl) ?_
  refine x0x rfl ?_
  refine a0w (b := 1) rfl rfl (by omega) (by omega) ?_
  refine x2x rfl ?_
  exact ⟨k - 1, ⟨⟨by omega, fun j y2 hj hy2 => by by_cases hjk : j = k - 1; (subst hjk; rw [hy] at hy2; cases hy2; exact hlt); exact k2 j y2 (by omega) hy2⟩, by omega⟩, [], (x5x 5 rfl Cov.nil), (x5x 0 rfl (x5x 3 rfl (x5x 4 rfl Cov.nil))), HE.nil, (z2z 0 rfl (z2z 1 rfl (z2z 2 rfl (z2z 3 rfl (z2z 4 rfl (z2z 5 rfl HE.nil)))))), rfl⟩
 ·try dsimp only [List.cons_append, List.nil_append]
  obtain ⟨c1, c2, c3⟩ := hi
  have hin := (b6v hx).trans (c5s c7b (c1f _) c2 c3 c1)
  refine a1k x9x s7s (by rfl) ?_
  refine a1x (id := 1) w5w rfl v8v rfl ?_
  refine x0x rfl ?_
  refine x0x rfl ?_
  refine a5g rfl w5w rfl v8v rfl rfl rfl (by omega) (by omega) (by omega) ?_
  refine b0h (zs := ((a1d (l.take i)).take k).map a2c) rfl rfl w5w rfl v8v rfl rfl rfl (by exact a9k (fun _ => rfl) _) (by simp) (by (simp only [List.length_map, List.length_append, List.length_cons, List.length_nil, List.length_take, List.length_drop, T84]; omega)) ?_
  refine x0x rfl ?_
  refine x0x rfl ?_
  refine v0v rfl rfl w5w rfl v8v rfl hx ?_
  refine w1w rfl v8v rfl rfl ?_
  refine a0s (id := 3) w5w rfl v8v rfl rfl rfl rfl rfl rfl ?_
  refine r7r (zs := ((a1d (l.take i)).take k ++ [x]).map a2c) rfl rfl w5w rfl v8v rfl rfl rfl rfl (by rfl) (a1l _ _ _) (by (simp only [List.length_map, List.length_append, List.length_cons, List.length_nil, List.length_take, List.length_drop, T84]; omega)) ?_
  refine x0x rfl ?_
  refine x0x rfl ?_
  refine a5g rfl w5w rfl v8v rfl rfl rfl (by omega) (by (rw [List.length_map]; omega)) (by (rw [List.length_map]; omega)) ?_
  refine c5j x9x (zs := ((a1d (l.take i)).take k ++ x :: (a1d (l.take i)).drop k).map a2c) rfl rfl w5w rfl v8v rfl rfl rfl (by exact a9k (fun _ => rfl) _) (by simp) (by (simp only [List.length_map, List.length_append, List.length_cons, List.length_nil, List.length_take, List.length_drop, T84]; omega)) (Le.ow_map _ (fun _ => rfl) (fun _ => rfl)) ?_
  refine x2x rfl ?_
  refine ⟨by kernel_rfl, ?_⟩
  refine hK4 _ _ ?_
  clear hK4 K4
  refine y0y x9x (by rfl) ?_
  refine x0x rfl ?_
  refine r0r (b := 1) rfl rfl (by omega) ?_
  refine x2x rfl ?_
  exact ⟨i + 1, ⟨by omega, by omega⟩, [0, _, _, _, _, _], (Cov.cons' (t := 3) rfl (by rw [hin]; rfl) (x5x 4 rfl Cov.nil)), (x5x 0 rfl Cov.nil), (HE.kill rfl (HE.kill rfl (HE.kill rfl (HE.kill rfl (HE.kill rfl HE.nil))))), (z2z 0 rfl HE.nil), rfl⟩
end
section
theorem a9h (c : Bool) (l : List Ev) (hl : l.length ≤ 10000000) : a2g Try.prog 54 [a7x c l] (a7x true (q6q l)) := by
 refine u9u x9x (fn := Try.f54) (by kernel_rfl) (by kernel_rfl) rfl (outs := [a7x true (q6q l)]) (by rfl) (u3u rfl) 3 ?_
 refine x7x x9x (by rfl) ?_
 refine x2x rfl ?_
 refine x7x x9x (by rfl) ?_
 refine a1x (id := 0) w2w rfl v1v rfl ?_
 refine x2x rfl ?_
 refine x8x fun K1 hK1 => ?_
 refine x7x x9x (by rfl) ?_
 refine x2x rfl ?_
 refine y7y ?_
 refine v9v (ι := Nat) (fun i γ1 => [(3, .ref 0 (γ1 0)), (4, .pv (.int .i64 (i : Int)))]) (fun i γ1 => [(0, ((γ1 0), .row 81 7 ((q6q (l.take i)).map a0i))), (1, ((γ1 1), .dead)), (2, ((γ1 2), .dead))]) (fun i => i ≤ l.length) (fun i => l.length - i) (x5x 0 rfl Cov.nil) HE.nil 0 (by omega) [_, _, _] (x5x 3 rfl (x5x 4 rfl Cov.nil)) (HE.row rfl (by rw [List.take_zero]; rfl) (HE.kill rfl (HE.kill rfl HE.nil))) rfl fun i γ1 hi => ?_
 try dsimp only [List.cons_append, List.nil_append]
 refine x8x fun K2 hK2 => ?_
 refine x7x x9x (by rfl) ?_
 refine x0x rfl ?_
 refine x0x rfl ?_
 refine v3v rfl w2w rfl ?_
 refine z0z rfl rfl rfl ?_
 refine y1y rfl (fun hc3 => ?_) (fun hc3 => ?_)
 rotate_left
 ·try simp at hc3
  obtain rfl : i = l.length := by omega
  refine v7v ?_
  refine hK1 _ _ ?_
  clear hK2 K2 hK1 K1
  refine x7x x9x (by rfl) ?_
  refine x0x rfl ?_
  refine x2x rfl ?_
  refine y6y ⟨.inr rfl, ?_⟩
  refine c5b rfl rfl (fun _ => rfl) ?_
  rw [List.take_length]
 try simp at hc3
 obtain ⟨x, hx⟩ : ∃ x, l[i]? = some x := s8s (by omega)
 have hol : (q6q (l.take i)).length ≤ 10000000 := Nat.le_trans (c1d _) (by rw [List.length_take]; omega)
 have hss := c1b (l.take i)
 refine y8y ?_
 refine hK2 _ _ ?_
 clear hK2 K2
 refine x8x fun K4 hK4 => ?_
 refine y7y ?_
 refine x7x x9x (by rfl) ?_
 refine x0x rfl ?_
 refine a2o rfl w2w rfl rfl (by exact List.length_map _) ?_
 refine x2x rfl ?_
 refine b0j (ι := Nat) (fun k γ2 => [(5, .pv (.int .i64 (k : Int)))]) (fun k γ2 => []) (fun k => k ≤ (q6q (l.take i)).length ∧ (∀ (j : Nat) y, k ≤ j → (q6q (l.take i))[j]? = some y → a3m x y = true) ∧ (∀ y, 0 < k → (q6q (l.take i))[k - 1]? = some y → a3m x y = false)) (x5x 0 rfl (x5x 3 rfl (x5x 4 rfl Cov.nil))) (z2z 0 rfl (z2z 1 rfl (z2z 2 rfl HE.nil))) ?_ fun k γ2 hi => ?_
 ·refine y7y ?_
  refine v9v (ι := Nat) (fun k γ3 => [(5, .pv (.int .i64 (k : Int)))]) (fun k γ3 => []) (fun k => k ≤ (q6q (l.take i)).length ∧ (∀ (j : Nat) y, k ≤ j → (q6q (l.take i))[j]? = some y → a3m x y = true)) (fun k => k) (x5x 0 rfl (x5x 3 rfl (x5x 4 rfl Cov.nil))) (z2z 0 rfl (z2z 1 rfl (z2z 2 rfl HE.nil))) (q6q (l.take i)).length ⟨Nat.le_refl _, fun j y hj hy => by have := (List.getElem?_eq_some_iff.1 hy).1; omega⟩ [] (x5x 5 rfl Cov.nil) HE.nil rfl fun k γ3 hi => ?_
  try dsimp only [List.cons_append, List.nil_append]
  obtain ⟨k1, k2⟩ := hi
  refine x8x fun K5 hK5 => ?_
  refine q5q x9x s7s (by rfl) ?_
  refine x0x rfl ?_
  refine z0z rfl rfl rfl ?_
  refine x0x rfl ?_
  refine a0d rfl rfl (fun hg6 => ?_) (fun hg6 => ?_)
  rotate_left
  ·try simp at hg6
   have k0 : k = 0 := by omega
   refine x4x rfl rfl ?_
   refine x4x rfl rfl ?_
   refine x4x rfl rfl ?_
   refine x4x rfl rfl ?_
   refine x4x rfl rfl ?_
   refine x4x rfl rfl ?_
   refine x4x rfl rfl ?_
   refine x4x rfl rfl ?_
   refine x4x rfl rfl ?_
   refine x6x rfl rfl ?_
   refine ⟨by kernel_rfl, ?_⟩
   refine y1y rfl (fun hc8 => ?_) (fun hc8 => ?_)
   ·simp at hc8
   try simp at hc8
   try have hlt := hc8
   refine v7v ?_
   exact ⟨k, ⟨k1, k2, fun y2 h0 h2 => by omega⟩, [], (x5x 5 rfl Cov.nil), (x5x 0 rfl (x5x 3 rfl (x5x 4 rfl Cov.nil))), HE.nil, (z2z 0 rfl (z2z 1 rfl (z2z 2 rfl HE.nil))), rfl⟩
  try simp at hg6
  have k0 : 0 < k := by omega
  obtain ⟨y, hy⟩ : ∃ y, (q6q (l.take i))[k - 1]? = some y := s8s (by omega)
  refine x0x rfl ?_
  refine y9y rfl rfl ?_
  refine x0x rfl ?_
  refine y9y rfl rfl ?_
  refine v0v rfl rfl w2w rfl v1v rfl hx ?_
  refine y9y rfl rfl ?_
  refine w1w rfl v1v rfl rfl ?_
  refine y9y rfl rfl ?_
  refine x0x rfl ?_
  refine y9y rfl rfl ?_
  refine x0x rfl ?_
  refine y9y rfl rfl ?_
  refine a0w (b := 1) rfl rfl (by omega) (by omega) ?_
  refine y9y rfl rfl ?_
  refine w6w (j := k - 1) rfl rfl w2w rfl v1v rfl rfl (by omega) ?_
  refine y9y rfl rfl ?_
  refine a4i rfl v1v rfl hy rfl rfl ?_
  refine y9y rfl rfl ?_
  refine z7z rfl rfl rfl (a3x ..) ?_
  refine z4z rfl rfl ?_
  refine ⟨by kernel_rfl, ?_⟩
  refine y1y rfl (fun hc7 => ?_) (fun hc7 => ?_)
  rotate_left
  ·try simp at hc7
   try have hlt := hc7
   refine v7v ?_
   exact ⟨k, ⟨k1, k2, fun y2 h0 h2 => by (rw [hy] at h2; cases h2; exact hlt)⟩, [], (x5x 5 rfl Cov.nil), (x5x 0 rfl (x5x 3 rfl (x5x 4 rfl Cov.nil))), HE.nil, (z2z 0 rfl (z2z 1 rfl (z2z 2 rfl HE.nil))), rfl⟩
  try simp at hc7
  try have hlt := hc7
  refine y8y ?_
  refine hK5 _ _ ?_
  clear hK5 K5
  refine y7y ?_
  refine y0y x9x (by rfl) ?_
  refine x0x rfl ?_
  refine a0w (b := 1) rfl rfl (by omega) (by omega) ?_
  refine x2x rfl ?_
  exact ⟨k - 1, ⟨⟨by omega, fun j y2 hj hy2 => by by_cases hjk : j = k - 1; (subst hjk; rw [hy] at hy2; cases hy2; exact hlt); exact k2 j y2 (by omega) hy2⟩, by omega⟩, [], (x5x 5 rfl Cov.nil), (x5x 0 rfl (x5x 3 rfl (x5x 4 rfl Cov.nil))), HE.nil, (z2z 0 rfl (z2z 1 rfl (z2z 2 rfl HE.nil))), rfl⟩
 ·try dsimp only [List.cons_append, List.nil_append]
  obtain ⟨c1, c2, c3⟩ := hi
  refine x8x fun K9 hK9 => ?_
  refine q5q x9x s7s (by rfl) ?_
  refine x0x rfl ?_
  refine z0z rfl rfl rfl ?_
  refine x0x rfl ?_
  refine a0d rfl rfl (fun hg10 => ?_) (fun hg10 => ?_)
  rotate_left
  ·try simp at hg10
   have k0 : k = 0 := by omega
   refine x4x rfl rfl ?_
   refine x4x rfl rfl ?_
   refine x4x rfl rfl ?_
   refine x4x rfl rfl ?_
   refine x4x rfl rfl ?_
   refine x4x rfl rfl ?_
   refine x4x rfl rfl ?_
   refine x4x rfl rfl ?_
   refine x4x rfl rfl ?_
   refine x6x rfl rfl ?_
   refine ⟨by kernel_rfl, ?_⟩
   refine y1y rfl (fun hc16 => ?_) (fun hc16 => ?_)
   ·simp at hc16
   try simp at hc16
   try have hyx : ¬ y = x := by simpa [a6u] using hc16
   have hin : q6q (l.take (i + 1)) = (q6q (l.take i)).take k ++ x :: (q6q (l.take i)).drop k := by rw [a6i hx]; exact c1a b8s hss c2 (fun y2 h0 h2 => ⟨c3 y2 h0 h2, by omega⟩) c1
   refine y8y ?_
   refine hK9 _ _ ?_
   clear hK9 K9
   refine x7x x9x (by rfl) ?_
   refine x0x rfl ?_
   refine x0x rfl ?_
   refine x0x rfl ?_
   refine v0v rfl rfl w2w rfl v1v rfl hx ?_
   refine w1w rfl v1v rfl rfl ?_
   refine a0s (id := 1) w2w rfl v1v rfl rfl rfl rfl rfl rfl ?_
   refine r7r (zs := (q6q (l.take i) ++ [x]).map a0i) rfl rfl w2w rfl v1v rfl rfl rfl rfl (by rfl) (a1l _ _ _) (by have hb56 : T81.bytes = 56 := rfl; rw [List.length_map, hb56]; simp only [List.length_append, List.length_cons, List.length_nil]; omega) ?_
   refine x2x rfl ?_
   refine x8x fun K17 hK17 => ?_
   refine x7x x9x (by rfl) ?_
   refine x0x rfl ?_
   refine a2o rfl w2w rfl rfl (by exact List.length_map _) ?_
   refine a0w (b := 1) rfl rfl (by (simp; done)) (by (simp; omega)) ?_
   refine x2x rfl ?_
   refine y7y ?_
   refine v9v (ι := Nat × Ev) (fun q γ5 => [(6, .pv (.int .i64 (q.1 : Int)))]) (fun q γ5 => [(0, ((γ1 0 + 1), .row 81 7 (((q6q (l.take i)).take q.1 ++ q.2 :: (q6q (l.take i)).drop q.1).map a0i)))]) (fun q => k ≤ q.1 ∧ q.1 ≤ (q6q (l.take i)).length) (fun q => q.1) (x5x 0 rfl (x5x 3 rfl (x5x 4 rfl (x5x 5 rfl Cov.nil)))) (z2z 1 rfl (z2z 2 rfl HE.nil)) ((q6q (l.take i)).length, x) ⟨c1, Nat.le_refl _⟩ [] (Cov.cons' (t := 6) rfl (by simp) Cov.nil) (HE.row rfl (by rw [List.take_length, List.drop_length]) HE.nil) rfl fun q γ5 hi => ?_
   try dsimp only [List.cons_append, List.nil_append]
   obtain ⟨m, u⟩ := q
   obtain ⟨m1, m2⟩ := hi
   dsimp only at m1 m2 ⊢
   refine x8x fun K18 hK18 => ?_
   refine x7x x9x (by rfl) ?_
   refine x0x rfl ?_
   refine x0x rfl ?_
   refine z0z rfl rfl rfl ?_
   refine y1y rfl (fun hc19 => ?_) (fun hc19 => ?_)
   rotate_left
   ·try simp at hc19
    obtain rfl : k = m := by omega
    refine v7v ?_
    refine hK17 _ _ ?_
    clear hK18 K18 hK17 K17
    refine y0y x9x (by rfl) ?_
    refine x0x rfl ?_
    refine x0x rfl ?_
    refine x0x rfl ?_
    refine x0x rfl ?_
    refine v0v rfl rfl w2w rfl v1v rfl hx ?_
    refine w1w rfl v1v rfl rfl ?_
    refine w6w (j := k) rfl rfl w2w rfl v1v rfl rfl (a1m (b5e c1)) ?_
    refine a5i (el' := x) rfl rfl v1v rfl rfl rfl (b5e c1) rfl (a7c _) rfl rfl ?_
    refine hK4 _ _ ?_
    clear hK4 K4
    refine y0y x9x (by rfl) ?_
    refine x0x rfl ?_
    refine r0r (b := 1) rfl rfl (by omega) ?_
    refine x2x rfl ?_
    exact ⟨i + 1, ⟨by omega, by omega⟩, [_, _, _], (x5x 3 rfl (x5x 4 rfl Cov.nil)), (x5x 0 rfl Cov.nil), (HE.row rfl (by rw [hin, c1e c1]) (HE.kill rfl (HE.kill rfl HE.nil))), HE.nil, rfl⟩
   try simp at hc19
   obtain ⟨z, hz⟩ : ∃ z, (q6q (l.take i))[m - 1]? = some z := s8s (by omega)
   refine y8y ?_
   refine hK18 _ _ ?_
   clear hK18 K18
   refine x8x fun K20 hK20 => ?_
   refine y7y ?_
   refine y0y x9x (by rfl) ?_
   refine x0x rfl ?_
   refine x0x rfl ?_
   refine x0x rfl ?_
   refine x0x rfl ?_
   refine a0w (b := 1) rfl rfl (by omega) (by omega) ?_
   refine w6w (j := m - 1) rfl rfl w2w rfl v1v rfl rfl (a1m (b7p m2 (by omega) hz)) ?_
   refine a4i rfl v1v rfl (b7p m2 (by omega) hz) rfl rfl ?_
   refine w6w (j := m) rfl rfl w2w rfl v1v rfl rfl (a1m (b5e m2)) ?_
   refine a5i (el' := z) rfl rfl v1v rfl rfl rfl (b5e m2) rfl (a7c _) rfl rfl ?_
   refine hK20 _ _ ?_
   clear hK20 K20
   refine y0y x9x (by rfl) ?_
   refine x0x rfl ?_
   refine a0w (b := 1) rfl rfl (by omega) (by omega) ?_
   refine x2x rfl ?_
   exact ⟨(m - 1, z), ⟨⟨by dsimp only; omega, by dsimp only; omega⟩, (by dsimp only; omega)⟩, [], (x5x 6 rfl Cov.nil), (x5x 0 rfl (x5x 3 rfl (x5x 4 rfl (x5x 5 rfl Cov.nil)))), (HE.row rfl (by rw [c3t m2 (by omega) hz]) HE.nil), (z2z 1 rfl (z2z 2 rfl HE.nil)), rfl⟩
  try simp at hg10
  have k0 : 0 < k := by omega
  obtain ⟨y, hy⟩ : ∃ y, (q6q (l.take i))[k - 1]? = some y := s8s (by omega)
  refine x0x rfl ?_
  refine y9y rfl rfl ?_
  refine x0x rfl ?_
  refine y9y rfl rfl ?_
  refine a0w (b := 1) rfl rfl (by omega) (by omega) ?_
  refine y9y rfl rfl ?_
  refine w6w (j := k - 1) rfl rfl w2w rfl v1v rfl rfl (by omega) ?_
  refine y9y rfl rfl ?_
  refine a4i rfl v1v rfl hy rfl rfl ?_
  refine y9y rfl rfl ?_
  refine x0x rfl ?_
  refine y9y rfl rfl ?_
  refine x0x rfl ?_
  refine y9y rfl rfl ?_
  refine v0v rfl rfl w2w rfl v1v rfl hx ?_
  refine y9y rfl rfl ?_
  refine w1w rfl v1v rfl rfl ?_
  refine y9y rfl rfl ?_
  refine a8g rfl rfl (by intro a c h; cases h) (.inl rfl) (c9l _ _ _ _) ?_
  refine z4z rfl rfl ?_
  refine ⟨by kernel_rfl, ?_⟩
  refine y1y rfl (fun hc11 => ?_) (fun hc11 => ?_)
  ·try simp at hc11
   have hyx : y = x := by simpa [a6u] using hc11
   have hsk : q6q (l.take (i + 1)) = q6q (l.take i) := by rw [a6i hx]; exact c5r b8s hss (List.mem_of_getElem? (hyx ▸ hy))
   refine v7v ?_
   refine hK4 _ _ ?_
   clear hK9 K9 hK4 K4
   refine y0y x9x (by rfl) ?_
   refine x0x rfl ?_
   refine r0r (b := 1) rfl rfl (by omega) ?_
   refine x2x rfl ?_
   exact ⟨i + 1, ⟨by omega, by omega⟩, [_, _, _], (x5x 3 rfl (x5x 4 rfl Cov.nil)), (x5x 0 rfl Cov.nil), (HE.row rfl (by rw [hsk]) (HE.kill rfl (HE.kill rfl HE.nil))), HE.nil, rfl⟩
  try simp at hc11
  try have hyx : ¬ y = x := by simpa [a6u] using hc11
  have hin : q6q (l.take (i + 1)) = (q6q (l.take i)).take k ++ x :: (q6q (l.take i)).drop k := by rw [a6i hx]; exact c1a b8s hss c2 (fun y2 h0 h2 => ⟨c3 y2 h0 h2, by (rw [hy] at h2; cases h2; exact hyx)⟩) c1
  refine y8y ?_
  refine hK9 _ _ ?_
  clear hK9 K9
  refine x7x x9x (by rfl) ?_
  refine x0x rfl ?_
  refine x0x rfl ?_
  refine x0x rfl ?_
  refine v0v rfl rfl w2w rfl v1v rfl hx ?_
  refine w1w rfl v1v rfl rfl ?_
  refine a0s (id := 1) w2w rfl v1v rfl rfl rfl rfl rfl rfl ?_
  refine r7r (zs := (q6q (l.take i) ++ [x]).map a0i) rfl rfl w2w rfl v1v rfl rfl rfl rfl (by rfl) (a1l _ _ _) (by have hb56 : T81.bytes = 56 := rfl; rw [List.length_map, hb56]; simp only [List.length_append, List.length_cons, List.length_nil]; omega) ?_
  refine x2x rfl ?_
  refine x8x fun K12 hK12 => ?_
  refine x7x x9x (by rfl) ?_
  refine x0x rfl ?_
  refine a2o rfl w2w rfl rfl (by exact List.length_map _) ?_
  refine a0w (b := 1) rfl rfl (by (simp; done)) (by (simp; omega)) ?_
  refine x2x rfl ?_
  refine y7y ?_
  refine v9v (ι := Nat × Ev) (fun q γ4 => [(6, .pv (.int .i64 (q.1 : Int)))]) (fun q γ4 => [(0, ((γ1 0 + 1), .row 81 7 (((q6q (l.take i)).take q.1 ++ q.2 :: (q6q (l.take i)).drop q.1).map a0i)))]) (fun q => k ≤ q.1 ∧ q.1 ≤ (q6q (l.take i)).length) (fun q => q.1) (x5x 0 rfl (x5x 3 rfl (x5x 4 rfl (x5x 5 rfl Cov.nil)))) (z2z 1 rfl (z2z 2 rfl HE.nil)) ((q6q (l.take i)).length, x) ⟨c1, Nat.le_refl _⟩ [] (Cov.cons' (t := 6) rfl (by simp) Cov.nil) (HE.row rfl (by rw [List.take_length, List.drop_length]) HE.nil) rfl fun q γ4 hi => ?_
  try dsimp only [List.cons_append, List.nil_append]
  obtain ⟨m, u⟩ := q
  obtain ⟨m1, m2⟩ := hi
  dsimp only at m1 m2 ⊢
  refine x8x fun K13 hK13 => ?_
  refine x7x x9x (by rfl) ?_
  refine x0x rfl ?_
  refine x0x rfl ?_
  refine z0z rfl rfl rfl ?_
  refine y1y rfl (fun hc14 => ?_) (fun hc14 => ?_)
  rotate_left
  ·try simp at hc14
   obtain rfl : k = m := by omega
   refine v7v ?_
   refine hK12 _ _ ?_
   clear hK13 K13 hK12 K12
   refine y0y x9x (by rfl) ?_
   refine x0x rfl ?_
   refine x0x rfl ?_
   refine x0x rfl ?_
   refine x0x rfl ?_
   refine v0v rfl rfl w2w rfl v1v rfl hx ?_
   refine w1w rfl v1v rfl rfl ?_
   refine w6w (j := k) rfl rfl w2w rfl v1v rfl rfl (a1m (b5e c1)) ?_
   refine a5i (el' := x) rfl rfl v1v rfl rfl rfl (b5e c1) rfl (a7c _) rfl rfl ?_
   refine hK4 _ _ ?_
   clear hK4 K4
   refine y0y x9x (by rfl) ?_
   refine x0x rfl ?_
   refine r0r (b := 1) rfl rfl (by omega) ?_
   refine x2x rfl ?_
   exact ⟨i + 1, ⟨by omega, by omega⟩, [_, _, _], (x5x 3 rfl (x5x 4 rfl Cov.nil)), (x5x 0 rfl Cov.nil), (HE.row rfl (by rw [hin, c1e c1]) (HE.kill rfl (HE.kill rfl HE.nil))), HE.nil, rfl⟩
  try simp at hc14
  obtain ⟨z, hz⟩ : ∃ z, (q6q (l.take i))[m - 1]? = some z := s8s (by omega)
  refine y8y ?_
  refine hK13 _ _ ?_
  clear hK13 K13
  refine x8x fun K15 hK15 => ?_
  refine y7y ?_
  refine y0y x9x (by rfl) ?_
  refine x0x rfl ?_
  refine x0x rfl ?_
  refine x0x rfl ?_
  refine x0x rfl ?_
  refine a0w (b := 1) rfl rfl (by omega) (by omega) ?_
  refine w6w (j := m - 1) rfl rfl w2w rfl v1v rfl rfl (a1m (b7p m2 (by omega) hz)) ?_
  refine a4i rfl v1v rfl (b7p m2 (by omega) hz) rfl rfl ?_
  refine w6w (j := m) rfl rfl w2w rfl v1v rfl rfl (a1m (b5e m2)) ?_
  refine a5i (el' := z) rfl rfl v1v rfl rfl rfl (b5e m2) rfl (a7c _) rfl rfl ?_
  refine hK15 _ _ ?_
  clear hK15 K15
  refine y0y x9x (by rfl) ?_
  refine x0x rfl ?_
  refine a0w (b := 1) rfl rfl (by omega) (by omega) ?_
  refine x2x rfl ?_
  exact ⟨(m - 1, z), ⟨⟨by dsimp only; omega, by dsimp only; omega⟩, (by dsimp only; omega)⟩, [], (x5x 6 rfl Cov.nil), (x5x 0 rfl (x5x 3 rfl (x5x 4 rfl (x5x 5 rfl Cov.nil)))), (HE.row rfl (by rw [c3t m2 (by omega) hz]) HE.nil), (z2z 1 rfl (z2z 2 rfl HE.nil)), rfl⟩
end
section

def b2e (n : Nat) : List Nat := if n < 128 then [n] else (128 + n % 128) :: b2e (n / 128)
termination_by n
decreasing_by omega
variable {n : Nat}
theorem a4q (h : n < 128) : b2e n = [n] := by rw [b2e, if_pos h]
theorem a6j (h : ¬ n < 128) : b2e n = (128 + n % 128) :: b2e (n / 128) := by rw [b2e, if_neg h]
theorem b5i : ∀ (n : Nat), ∀ b ∈ b2e n, b < 256 := fun n => by
 induction n using Nat.strongRecOn with
 | _ n ih =>
  intro b hb
  by_cases h : n < 128
  ·rw [a4q h] at hb; simp at hb; omega
  ·rw [a6j h] at hb
   rcases List.mem_cons.1 hb with e | hb
   ·omega
   ·exact ih (n / 128) (by omega) b hb
theorem b7s : ∀ (k n : Nat), n < 128 ^ (k + 1) → (b2e n).length ≤ k + 1
 | 0, n, h => by rw [a4q (by simpa using h)]; simp
 | k + 1, n, h => by
  by_cases h1 : n < 128
  ·rw [a4q h1]; simp
  ·rw [a6j h1, List.length_cons]
   have := b7s k (n / 128) (by rw [Nat.div_lt_iff_lt_mul (by omega)]; rw [Nat.pow_succ] at h; exact h)
   omega
def w4w (v : Int) : List Nat := b2e (v + 1).toNat
def u6u (l : List Int) : List Nat := l.flatMap w4w
def q2q (w : Wo) : List Int := [w.kind, w.from', w.to, w.inc, w.version, w.round, w.g]
def r2r (l : List Ev) : List Nat := l.flatMap fun e => u6u (evN e)
def r9r (l : List Ou) : List Nat := l.flatMap fun o => u6u (ouL o)
def a6o (w : Wo) : List Nat := u6u (q2q w) ++ w4w w.incs.length ++ u6u w.incs ++ w4w w.versions.length ++ u6u w.versions ++ w4w w.events.length ++ r2r w.events ++ w4w w.outs.length ++ r9r w.outs
open Classical in
def a3u (w : Wo) : List Nat := if s9s w then a6o w else []
variable {w : Wo}
theorem a8l (h : s9s w) : a3u w = a6o w := if_pos h
theorem a8m (h : ¬ s9s w) : a3u w = [] := if_neg h
structure Up where
 at' : Nat
 err : Option (Nat × Nat)
def unF (bs : List Nat) : Nat → Nat → Nat → Nat → Int × Up
 | 0, _, _, p => (0, ⟨p, some (p, if p < bs.length then 2 else 1)⟩)
 | k + 1, v, m, p => match bs[p]? with
  | none => (0, ⟨p, some (p, 1)⟩)
  | some b => if b < 128 then (((v + b % 128 * m : Nat) : Int) - 1, ⟨p + 1, none⟩) else unF bs k (v + b % 128 * m) (m * 128) (p + 1)
open Classical in
def a1b (bs : List Nat) (u : Up) : Int × Up := if u.err = none then unF bs 5 0 1 u.at' else (0, u)
open Classical in
def b1p (u : Up) (f : Nat) : Up := if u.err = none then ⟨u.at', some (u.at', f)⟩ else u
def s0s (bs : List Nat) (most : Int) (u : Up) : Int × Up := if 0 ≤ (a1b bs u).1 ∧ (a1b bs u).1 ≤ most then a1b bs u else (0, b1p (a1b bs u).2 2)
def a4e (bs : List Nat) : Nat → Up → List Int × Up
 | 0, u => ([], u)
 | n + 1, u => ((a1b bs u).1 :: (a4e bs n (a1b bs u).2).1, (a4e bs n (a1b bs u).2).2)
def a9i (bs : List Nat) (most : Int) (u : Up) : List Int × Up := a4e bs (s0s bs most u).1.toNat (s0s bs most u).2
def b8w (l : List Int) : Ev := ⟨l.getD 0 0, l.getD 1 0, l.getD 2 0, l.getD 3 0, l.getD 4 0, l.getD 5 0, l.getD 6 0⟩
def b5r (l : List Int) : Ou := ⟨l.getD 0 0, l.getD 1 0, l.getD 2 0, l.getD 3 0, l.getD 4 0⟩
def b3y (bs : List Nat) : Nat → Up → List Ev × Up
 | 0, u => ([], u)
 | n + 1, u => (b8w (a4e bs 7 u).1 :: (b3y bs n (a4e bs 7 u).2).1, (b3y bs n (a4e bs 7 u).2).2)
def b5j (bs : List Nat) : Nat → Up → List Ou × Up
 | 0, u => ([], u)
 | n + 1, u => (b5r (a4e bs 5 u).1 :: (b5j bs n (a4e bs 5 u).2).1, (b5j bs n (a4e bs 5 u).2).2)
def c2z (bs : List Nat) (u : Up) : List Ev × Up := b3y bs (s0s bs 100 u).1.toNat (s0s bs 100 u).2
def c3a (bs : List Nat) (u : Up) : List Ou × Up := b5j bs (s0s bs 96 u).1.toNat (s0s bs 96 u).2
def b9c (h a b : List Int) (e : List Ev) (o : List Ou) : Wo := ⟨h.getD 0 0, h.getD 1 0, h.getD 2 0, h.getD 3 0, h.getD 4 0, h.getD 5 0, h.getD 6 0, a, b, e, o⟩
def uH (bs : List Nat) := a4e bs 7 ⟨0, none⟩
def uA (bs : List Nat) := a9i bs 3 (uH bs).2
def uB (bs : List Nat) := a9i bs 3 (uA bs).2
def uE (bs : List Nat) := c2z bs (uB bs).2
def uO (bs : List Nat) := c3a bs (uE bs).2
def uWo (bs : List Nat) : Wo := b9c (uH bs).1 (uA bs).1 (uB bs).1 (uE bs).1 (uO bs).1
def a8n (bs : List Nat) : Prop := (uO bs).2.err = none ∧ (uO bs).2.at' = bs.length ∧ s9s (uWo bs) ∧ a3u (uWo bs) = bs
open Classical in
noncomputable def a2f (bs : List Nat) : Wo × Bool := if a8n bs then (uWo bs, true) else (wo0, false)
structure Rd7 where
 at' : Nat
 bad : Bool
def snF (bs : List Nat) : Nat → Nat → Nat → Nat → Int × Rd7
 | 0, _, _, p => (0, ⟨p, true⟩)
 | k + 1, v, m, p => match bs[p]? with
  | none => (0, ⟨p, true⟩)
  | some b => if b < 128 then (((v + b % 128 * m : Nat) : Int) - 1, ⟨p + 1, false⟩) else snF bs k (v + b % 128 * m) (m * 128) (p + 1)
def a1i (bs : List Nat) (r : Rd7) : Int × Rd7 := ((snF bs 3 0 1 r.at').1, ⟨(snF bs 3 0 1 r.at').2.at', r.bad || (snF bs 3 0 1 r.at').2.bad⟩)
def a0u (bs : List Nat) : Nat → Rd7 → List Int × Rd7
 | 0, r => ([], r)
 | n + 1, r => if r.bad = true then ([], r) else ((a1i bs r).1 :: (a0u bs n (a1i bs r).2).1, (a0u bs n (a1i bs r).2).2)
def a9m (bs : List Nat) : Nat → Rd7 → List Ev × Rd7
 | 0, r => ([], r)
 | n + 1, r => if r.bad = true then ([], r) else if (a0u bs 7 r).2.bad = true then ([], (a0u bs 7 r).2) else (b8w (a0u bs 7 r).1 :: (a9m bs n (a0u bs 7 r).2).1, (a9m bs n (a0u bs 7 r).2).2)
def a5t (bs : List Nat) : Nat → Rd7 → List Ou × Rd7
 | 0, r => ([], r)
 | n + 1, r => if r.bad = true then ([], r) else if (a0u bs 5 r).2.bad = true then ([], (a0u bs 5 r).2) else (b5r (a0u bs 5 r).1 :: (a5t bs n (a0u bs 5 r).2).1, (a5t bs n (a0u bs 5 r).2).2)
def b8x (bs : List Nat) (r : Rd7) : List Int × Rd7 := a0u bs (a1i bs r).1.toNat (a1i bs r).2
def c9o (bs : List Nat) (r : Rd7) : List Ev × Rd7 := a9m bs (a1i bs r).1.toNat (a1i bs r).2
def c9p (bs : List Nat) (r : Rd7) : List Ou × Rd7 := a5t bs (a1i bs r).1.toNat (a1i bs r).2
def sH (bs : List Nat) := a0u bs 7 ⟨0, false⟩
def sA (bs : List Nat) := b8x bs (sH bs).2
def sB (bs : List Nat) := b8x bs (sA bs).2
def sE (bs : List Nat) := c9o bs (sB bs).2
def sO (bs : List Nat) := c9p bs (sE bs).2
def sW (bs : List Nat) : Wo × Rd7 := if (sH bs).2.bad = true then (wo0, (sH bs).2) else (b9c (sH bs).1 (sA bs).1 (sB bs).1 (sE bs).1 (sO bs).1, (sO bs).2)
def b1a (bs : List Nat) : Prop := (sW bs).2.bad = false ∧ bs ≠ [] ∧ a3u (sW bs).1 = bs
open Classical in
noncomputable def q9q (bs : List Nat) : Wo × Bool := if b1a bs then ((sW bs).1, true) else (wo0, false)
variable {bs : List Nat} {k v m p : Nat}
theorem b3r (h : bs.length ≤ p) : snF bs (k + 1) v m p = (0, ⟨p, true⟩) := by
 unfold snF; rw [List.getElem?_eq_none h]
variable {b : Nat}
theorem c1k (h : bs[p]? = some b) (hb : b < 128) : snF bs (k + 1) v m p = (((v + b % 128 * m : Nat) : Int) - 1, ⟨p + 1, false⟩) := by
 unfold snF; rw [h]; exact if_pos hb
theorem c1l (h : bs[p]? = some b) (hb : ¬ b < 128) : snF bs (k + 1) v m p = snF bs k (v + b % 128 * m) (m * 128) (p + 1) := by
 conv => lhs; unfold snF
 rw [h]; exact if_neg hb
theorem a5l (h : bs.length ≤ p) : unF bs k v m p = (0, ⟨p, some (p, 1)⟩) := by
 cases k with
 | zero => unfold unF; rw [if_neg (by omega)]
 | succ k => unfold unF; rw [List.getElem?_eq_none h]
theorem c3b (h : p < bs.length) : unF bs 0 v m p = (0, ⟨p, some (p, 2)⟩) := by
 unfold unF; rw [if_pos h]
theorem b5k (h : bs[p]? = some b) (hb : b < 128) : unF bs (k + 1) v m p = (((v + b % 128 * m : Nat) : Int) - 1, ⟨p + 1, none⟩) := by
 unfold unF; rw [h]; exact if_pos hb
theorem b5l (h : bs[p]? = some b) (hb : ¬ b < 128) : unF bs (k + 1) v m p = unF bs k (v + b % 128 * m) (m * 128) (p + 1) := by
 conv => lhs; unfold unF
 rw [h]; exact if_neg hb
theorem c3w {bs : List Nat} : ∀ {k v m p : Nat}, p ≤ bs.length → (snF bs k v m p).2.at' ≤ bs.length
 | 0, _, _, _, h => h
 | k + 1, v, m, p, h => by
  unfold snF
  split
  ·exact h
  ·rename_i b hb
   have := (List.getElem?_eq_some_iff.1 hb).1
   split
   ·exact this
   ·exact c3w this
theorem c3x {bs : List Nat} : ∀ {k v m p : Nat}, p ≤ bs.length → (unF bs k v m p).2.at' ≤ bs.length
 | 0, _, _, _, h => h
 | k + 1, v, m, p, h => by
  unfold unF
  split
  ·exact h
  ·rename_i b hb
   have := (List.getElem?_eq_some_iff.1 hb).1
   split
   ·exact this
   ·exact c3x this
theorem c3y {bs : List Nat} : ∀ {k v m p : Nat}, v < m → -1 ≤ (snF bs k v m p).1 ∧ (snF bs k v m p).1 ≤ (m * 128 ^ k : Nat)
 | 0, v, m, p, h => ⟨by show (-1 : Int) ≤ 0; omega, by show (0 : Int) ≤ _; omega⟩
 | k + 1, v, m, p, h => by
  have h1 : ∀ b : Nat, v + b % 128 * m < m * 128 := fun b => by
   have : b % 128 * m ≤ 127 * m := Nat.mul_le_mul_right m (by omega)
   omega
  have h2 : m * 128 * 128 ^ k = m * 128 ^ (k + 1) := by rw [Nat.pow_succ, Nat.mul_assoc, Nat.mul_comm 128]
  have h3 : m * 128 ≤ m * 128 * 128 ^ k := Nat.le_mul_of_pos_right _ (Nat.pow_pos (by omega))
  unfold snF
  split
  ·exact ⟨by show (-1 : Int) ≤ 0; omega, by show (0 : Int) ≤ _; omega⟩
  ·rename_i b hb
   split
   ·have := h1 b; exact ⟨by show (-1 : Int) ≤ ((v + b % 128 * m : Nat) : Int) - 1; omega, by show ((v + b % 128 * m : Nat) : Int) - 1 ≤ _; omega⟩
   ·have := c3y (bs := bs) (k := k) (p := p + 1) (h1 b); rw [h2] at this; exact this
variable {r : Rd7}
theorem a3v (h : r.at' ≤ bs.length) : (a1i bs r).2.at' ≤ bs.length := c3w h
theorem a4r (bs : List Nat) (r : Rd7) : -1 ≤ (a1i bs r).1 ∧ (a1i bs r).1 ≤ 2097152 := c3y (by omega)
variable {u : Up}
theorem s4s (h : u.at' ≤ bs.length) : (a1b bs u).2.at' ≤ bs.length := by
 unfold a1b
 split
 ·exact c3x h
 ·exact h
theorem c3d (u : Up) (f : Nat) : (b1p u f).at' = u.at' := by
 unfold b1p
 split <;> rfl
theorem a3j {m : Int} (h : u.at' ≤ bs.length) : (s0s bs m u).2.at' ≤ bs.length := by
 unfold s0s
 split
 ·exact s4s h
 ·show (b1p _ _).at' ≤ _
  rw [c3d]; exact s4s h
theorem b1c (bs : List Nat) (u : Up) {m : Int} (hm : 0 ≤ m) : 0 ≤ (s0s bs m u).1 ∧ (s0s bs m u).1 ≤ m := by
 unfold s0s
 split
 ·assumption
 ·exact ⟨by show (0 : Int) ≤ 0; omega, hm⟩
theorem b3s {bs : List Nat} : ∀ {n : Nat} {u : Up}, u.at' ≤ bs.length → (a4e bs n u).2.at' ≤ bs.length
 | 0, _, h => h
 | n + 1, u, h => b3s (n := n) (s4s h)
theorem c1m {bs : List Nat} : ∀ {n : Nat} {u : Up}, u.at' ≤ bs.length → (b3y bs n u).2.at' ≤ bs.length
 | 0, _, h => h
 | n + 1, u, h => c1m (n := n) (b3s (n := 7) h)
def k12 (u : Up) : Prop := ∀ p f, u.err = some (p, f) → f = 1 ∨ f = 2
theorem b7t : k12 ⟨p, none⟩ := fun _ _ h => by cases h
theorem c7n {bs : List Nat} : ∀ {k v m p : Nat}, k12 (unF bs k v m p).2
 | 0, v, m, p => by
  intro a f h
  unfold unF at h
  simp only [Option.some.injEq, Prod.mk.injEq] at h
  obtain ⟨_, h⟩ := h
  split at h <;> omega
 | k + 1, v, m, p => by
  unfold unF
  split
  ·intro a f h
   simp only [Option.some.injEq, Prod.mk.injEq] at h
   omega
  ·split
   ·exact b7t
   ·exact c7n
theorem c1n (h : k12 u) : k12 (a1b bs u).2 := by
 unfold a1b
 split
 ·exact c7n
 ·exact h
theorem c6e (h : k12 u) : k12 (b1p u 2) := by
 unfold b1p
 split
 ·intro a f h
  simp only [Option.some.injEq, Prod.mk.injEq] at h
  omega
 ·exact h
theorem a9n {m : Int} (h : k12 u) : k12 (s0s bs m u).2 := by
 unfold s0s
 split
 ·exact c1n h
 ·exact c6e (c1n h)
theorem b2f {bs : List Nat} : ∀ {n : Nat} {u : Up}, k12 u → k12 (a4e bs n u).2
 | 0, _, h => h
 | n + 1, u, h => b2f (n := n) (c1n h)
theorem c3z {bs : List Nat} : ∀ {n : Nat} {u : Up}, k12 u → k12 (b3y bs n u).2
 | 0, _, h => h
 | n + 1, u, h => c3z (n := n) (b2f (n := 7) h)
theorem c4a {bs : List Nat} : ∀ {n : Nat} {u : Up}, k12 u → k12 (b5j bs n u).2
 | 0, _, h => h
 | n + 1, u, h => c4a (n := n) (b2f (n := 5) h)
theorem d0g (bs : List Nat) : k12 (uO bs).2 := c4a (a9n (c3z (a9n (b2f (a9n (b2f (a9n (b2f b7t))))))))
variable {l : List Int}
theorem c9q (h : l.length = 7) : ∃ a b c d e f g, l = [a, b, c, d, e, f, g] := by
 match l, h with
 | [a, b, c, d, e, f, g], _ => exact ⟨a, b, c, d, e, f, g, rfl⟩
theorem c9r (h : l.length = 5) : ∃ a b c d e, l = [a, b, c, d, e] := by
 match l, h with
 | [a, b, c, d, e], _ => exact ⟨a, b, c, d, e, rfl⟩
theorem c1o (h : ¬ r.bad = true) : a0u bs (k + 1) r = ((a1i bs r).1 :: (a0u bs k (a1i bs r).2).1, (a0u bs k (a1i bs r).2).2) := by
 conv => lhs; unfold a0u
 exact if_neg h
theorem b7u (h : k = 0 ∨ r.bad = true) : a0u bs k r = ([], r) := by
 cases k with
 | zero => rfl
 | succ k =>
  conv => lhs; unfold a0u
  exact if_pos (by rcases h with h | h; cases h; exact h)
theorem c1p (h : ¬ r.bad = true) (h2 : ¬ (a0u bs 7 r).2.bad = true) : a9m bs (k + 1) r = (b8w (a0u bs 7 r).1 :: (a9m bs k (a0u bs 7 r).2).1, (a9m bs k (a0u bs 7 r).2).2) := by
 conv => lhs; unfold a9m
 rw [if_neg h, if_neg h2]
theorem c3e (h : ¬ r.bad = true) (h2 : (a0u bs 7 r).2.bad = true) : a9m bs (k + 1) r = ([], (a0u bs 7 r).2) := by
 conv => lhs; unfold a9m
 rw [if_neg h, if_pos h2]
theorem b3t (h : k = 0 ∨ r.bad = true) : a9m bs k r = ([], r) := by
 cases k with
 | zero => rfl
 | succ k =>
  conv => lhs; unfold a9m
  exact if_pos (by rcases h with h | h; cases h; exact h)
theorem b5m (h : ¬ r.bad = true) (h2 : ¬ (a0u bs 5 r).2.bad = true) : a5t bs (k + 1) r = (b5r (a0u bs 5 r).1 :: (a5t bs k (a0u bs 5 r).2).1, (a5t bs k (a0u bs 5 r).2).2) := by
 conv => lhs; unfold a5t
 rw [if_neg h, if_neg h2]
theorem b7v (h : ¬ r.bad = true) (h2 : (a0u bs 5 r).2.bad = true) : a5t bs (k + 1) r = ([], (a0u bs 5 r).2) := by
 conv => lhs; unfold a5t
 rw [if_neg h, if_pos h2]
theorem a5m (h : k = 0 ∨ r.bad = true) : a5t bs k r = ([], r) := by
 cases k with
 | zero => rfl
 | succ k =>
  conv => lhs; unfold a5t
  exact if_pos (by rcases h with h | h; cases h; exact h)
theorem a6k {bs : List Nat} : ∀ {n : Nat} {r : Rd7}, r.at' ≤ bs.length → (a0u bs n r).2.at' ≤ bs.length
 | 0, _, h => h
 | n + 1, r, h => by
  unfold a0u
  split
  ·exact h
  ·exact a6k (n := n) (a3v h)
theorem a7r {bs : List Nat} : ∀ {n : Nat} {r : Rd7}, (a0u bs n r).2.bad = false → (a0u bs n r).1.length = n
 | 0, _, _ => rfl
 | n + 1, r, h => by
  unfold a0u at h ⊢
  by_cases hb : r.bad = true
  ·rw [if_pos hb] at h; rw [hb] at h; cases h
  ·rw [if_neg hb] at h ⊢
   show (_ :: _).length = _
   rw [List.length_cons, a7r h]
variable {pre post : List Nat}
theorem b3u : (pre ++ b :: post)[pre.length]? = some b := by simp
theorem c1q (bs : List Nat) : ∀ (k n v m : Nat) (pre post : List Nat), n < 128 ^ (k + 1) → bs = pre ++ (b2e n ++ post) → unF bs (k + 1) v m pre.length = (((v + n * m : Nat) : Int) - 1, ⟨pre.length + (b2e n).length, none⟩)
 | k, n, v, m, pre, post, h, e => by
  by_cases h1 : n < 128
  ·rw [a4q h1] at e ⊢
   have hg : bs[pre.length]? = some n := by rw [e]; exact b3u
   unfold unF
   rw [hg]
   simp only [if_pos h1, Nat.mod_eq_of_lt h1, List.length_cons, List.length_nil]
  ·cases k with
   | zero => exact absurd (by simpa using h) h1
   | succ k =>
    rw [a6j h1] at e ⊢
    have hg : bs[pre.length]? = some (128 + n % 128) := by rw [e]; exact b3u
    unfold unF
    rw [hg]
    simp only [if_neg (show ¬ 128 + n % 128 < 128 by omega)]
    have := c1q bs k (n / 128) (v + (128 + n % 128) % 128 * m) (m * 128) (pre ++ [128 + n % 128]) post (by rw [Nat.div_lt_iff_lt_mul (by omega)]; rw [Nat.pow_succ] at h; exact h) (by rw [e]; simp)
    rw [List.length_append, List.length_cons, List.length_nil] at this
    rw [this, List.length_cons]
    have e2 : v + (128 + n % 128) % 128 * m + n / 128 * (m * 128) = v + n * m := by
     have h3 : n = 128 * (n / 128) + n % 128 := (Nat.div_add_mod n 128).symm
     have h4 : n * m = (128 * (n / 128)) * m + (n % 128) * m := by rw [← Nat.add_mul]; rw [← h3]
     have h5 : n / 128 * (m * 128) = (128 * (n / 128)) * m := by rw [Nat.mul_comm m 128, ← Nat.mul_assoc, Nat.mul_comm (n / 128) 128]
     rw [show (128 + n % 128) % 128 = n % 128 by omega, h5, h4]; omega
    rw [e2, show pre.length + (0 + 1) + (b2e (n / 128)).length = pre.length + ((b2e (n / 128)).length + 1) by omega]
theorem c1r (bs : List Nat) : ∀ (k n v m : Nat) (pre post : List Nat), n < 128 ^ (k + 1) → bs = pre ++ (b2e n ++ post) → snF bs (k + 1) v m pre.length = (((v + n * m : Nat) : Int) - 1, ⟨pre.length + (b2e n).length, false⟩)
 | k, n, v, m, pre, post, h, e => by
  by_cases h1 : n < 128
  ·rw [a4q h1] at e ⊢
   have hg : bs[pre.length]? = some n := by rw [e]; exact b3u
   unfold snF
   rw [hg]
   simp only [if_pos h1, Nat.mod_eq_of_lt h1, List.length_cons, List.length_nil]
  ·cases k with
   | zero => exact absurd (by simpa using h) h1
   | succ k =>
    rw [a6j h1] at e ⊢
    have hg : bs[pre.length]? = some (128 + n % 128) := by rw [e]; exact b3u
    unfold snF
    rw [hg]
    simp only [if_neg (show ¬ 128 + n % 128 < 128 by omega)]
    have := c1r bs k (n / 128) (v + (128 + n % 128) % 128 * m) (m * 128) (pre ++ [128 + n % 128]) post (by rw [Nat.div_lt_iff_lt_mul (by omega)]; rw [Nat.pow_succ] at h; exact h) (by rw [e]; simp)
    rw [List.length_append, List.length_cons, List.length_nil] at this
    rw [this, List.length_cons]
    have e2 : v + (128 + n % 128) % 128 * m + n / 128 * (m * 128) = v + n * m := by
     have h3 : n = 128 * (n / 128) + n % 128 := (Nat.div_add_mod n 128).symm
     have h4 : n * m = (128 * (n / 128)) * m + (n % 128) * m := by rw [← Nat.add_mul]; rw [← h3]
     have h5 : n / 128 * (m * 128) = (128 * (n / 128)) * m := by rw [Nat.mul_comm m 128, ← Nat.mul_assoc, Nat.mul_comm (n / 128) 128]
     rw [show (128 + n % 128) % 128 = n % 128 by omega, h5, h4]; omega
    rw [e2, show pre.length + (0 + 1) + (b2e (n / 128)).length = pre.length + ((b2e (n / 128)).length + 1) by omega]

def ok7 (v : Int) : Prop := -1 ≤ v ∧ v ≤ 9999
theorem b7w {v : Int} (hv : ok7 v) (e : bs = pre ++ (w4w v ++ post)) : a1b bs ⟨pre.length, none⟩ = (v, ⟨(pre ++ w4w v).length, none⟩) := by
 have h2 := hv.2
 have h3 : (128 : Nat) ^ (4 + 1) = 34359738368 := by decide
 unfold a1b
 rw [if_pos rfl, c1q bs 4 (v + 1).toNat 0 1 pre post (by rw [h3]; omega) e]
 rw [List.length_append]
 refine Prod.ext ?_ rfl
 show ((0 + (v + 1).toNat * 1 : Nat) : Int) - 1 = v
 have := hv.1
 omega
theorem a7s {v : Int} (hv : ok7 v) (e : bs = pre ++ (w4w v ++ post)) : a1i bs ⟨pre.length, false⟩ = (v, ⟨(pre ++ w4w v).length, false⟩) := by
 have h2 := hv.2
 have h3 : (128 : Nat) ^ (2 + 1) = 2097152 := by decide
 unfold a1i
 rw [c1r bs 2 (v + 1).toNat 0 1 pre post (by rw [h3]; omega) e]
 rw [List.length_append]
 refine Prod.ext ?_ rfl
 show ((0 + (v + 1).toNat * 1 : Nat) : Int) - 1 = v
 have := hv.1
 omega
theorem a5n {bs : List Nat} : ∀ {l : List Int} {pre post : List Nat}, (∀ v ∈ l, ok7 v) → bs = pre ++ (u6u l ++ post) → a4e bs l.length ⟨pre.length, none⟩ = (l, ⟨(pre ++ u6u l).length, none⟩)
 | [], pre, post, _, e => by simp [a4e, u6u]
 | v :: l, pre, post, h, e => by
  have e1 : bs = pre ++ (w4w v ++ (u6u l ++ post)) := by rw [e]; simp [u6u]
  have h1 := b7w (h v (by simp)) e1
  have h2 := a5n (bs := bs) (l := l) (pre := pre ++ w4w v) (post := post) (fun x hx => h x (by simp [hx])) (by rw [e1]; simp)
  simp only [List.length_cons, a4e, h1, h2]
  simp [u6u]
theorem a5o {bs : List Nat} : ∀ {l : List Int} {pre post : List Nat}, (∀ v ∈ l, ok7 v) → bs = pre ++ (u6u l ++ post) → a0u bs l.length ⟨pre.length, false⟩ = (l, ⟨(pre ++ u6u l).length, false⟩)
 | [], pre, post, _, e => by simp [a0u, u6u]
 | v :: l, pre, post, h, e => by
  have e1 : bs = pre ++ (w4w v ++ (u6u l ++ post)) := by rw [e]; simp [u6u]
  have h1 := a7s (h v (by simp)) e1
  have h2 := a5o (bs := bs) (l := l) (pre := pre ++ w4w v) (post := post) (fun x hx => h x (by simp [hx])) (by rw [e1]; simp)
  simp only [List.length_cons, a0u, h1, h2]
  simp [u6u]
theorem b7x (e : Ev) : b8w (evN e) = e := rfl
theorem b7y (o : Ou) : b5r (ouL o) = o := rfl
theorem b7z {bs : List Nat} : ∀ {l : List Ev} {pre post : List Nat}, (∀ e ∈ l, ∀ v ∈ evN e, ok7 v) → bs = pre ++ (r2r l ++ post) → b3y bs l.length ⟨pre.length, none⟩ = (l, ⟨(pre ++ r2r l).length, none⟩)
 | [], pre, post, _, e => by simp [b3y, r2r]
 | x :: l, pre, post, h, e => by
  have e1 : bs = pre ++ (u6u (evN x) ++ (r2r l ++ post)) := by rw [e]; simp [r2r]
  have h1 : a4e bs 7 ⟨pre.length, none⟩ = _ := a5n (l := evN x) (h x (by simp)) e1
  have h2 := b7z (bs := bs) (l := l) (pre := pre ++ u6u (evN x)) (post := post) (fun y hy => h y (by simp [hy])) (by rw [e1]; simp)
  simp only [List.length_cons, b3y, h1, h2, b7x]
  simp [r2r]
theorem b8a {bs : List Nat} : ∀ {l : List Ou} {pre post : List Nat}, (∀ e ∈ l, ∀ v ∈ ouL e, ok7 v) → bs = pre ++ (r9r l ++ post) → b5j bs l.length ⟨pre.length, none⟩ = (l, ⟨(pre ++ r9r l).length, none⟩)
 | [], pre, post, _, e => by simp [b5j, r9r]
 | x :: l, pre, post, h, e => by
  have e1 : bs = pre ++ (u6u (ouL x) ++ (r9r l ++ post)) := by rw [e]; simp [r9r]
  have h1 : a4e bs 5 ⟨pre.length, none⟩ = _ := a5n (l := ouL x) (h x (by simp)) e1
  have h2 := b8a (bs := bs) (l := l) (pre := pre ++ u6u (ouL x)) (post := post) (fun y hy => h y (by simp [hy])) (by rw [e1]; simp)
  simp only [List.length_cons, b5j, h1, h2, b7y]
  simp [r9r]
theorem b8c {bs : List Nat} : ∀ {l : List Ev} {pre post : List Nat}, (∀ e ∈ l, ∀ v ∈ evN e, ok7 v) → bs = pre ++ (r2r l ++ post) → a9m bs l.length ⟨pre.length, false⟩ = (l, ⟨(pre ++ r2r l).length, false⟩)
 | [], pre, post, _, e => by simp [a9m, r2r]
 | x :: l, pre, post, h, e => by
  have e1 : bs = pre ++ (u6u (evN x) ++ (r2r l ++ post)) := by rw [e]; simp [r2r]
  have h1 : a0u bs 7 ⟨pre.length, false⟩ = _ := a5o (l := evN x) (h x (by simp)) e1
  have h2 := b8c (bs := bs) (l := l) (pre := pre ++ u6u (evN x)) (post := post) (fun y hy => h y (by simp [hy])) (by rw [e1]; simp)
  simp only [List.length_cons, a9m, h1, h2, b7x]
  simp [r2r]
theorem b8d {bs : List Nat} : ∀ {l : List Ou} {pre post : List Nat}, (∀ e ∈ l, ∀ v ∈ ouL e, ok7 v) → bs = pre ++ (r9r l ++ post) → a5t bs l.length ⟨pre.length, false⟩ = (l, ⟨(pre ++ r9r l).length, false⟩)
 | [], pre, post, _, e => by simp [a5t, r9r]
 | x :: l, pre, post, h, e => by
  have e1 : bs = pre ++ (u6u (ouL x) ++ (r9r l ++ post)) := by rw [e]; simp [r9r]
  have h1 : a0u bs 5 ⟨pre.length, false⟩ = _ := a5o (l := ouL x) (h x (by simp)) e1
  have h2 := b8d (bs := bs) (l := l) (pre := pre ++ u6u (ouL x)) (post := post) (fun y hy => h y (by simp [hy])) (by rw [e1]; simp)
  simp only [List.length_cons, a5t, h1, h2, b7y]
  simp [r9r]
theorem a5p {most : Int} (hm : (n : Int) ≤ most) (hn : n ≤ 9999) (e : bs = pre ++ (w4w n ++ post)) : s0s bs most ⟨pre.length, none⟩ = ((n : Int), ⟨(pre ++ w4w n).length, none⟩) := by
 unfold s0s
 rw [b7w ⟨by omega, by omega⟩ e]
 exact if_pos ⟨by show (0 : Int) ≤ n; omega, hm⟩
theorem a0f (h : s9s w) : ∀ e ∈ w.events, ∀ v ∈ evN e, ok7 v := by
 intro e he v hv
 have := (a0n h.2.2.2.1).2 e he
 have k : b0q e := of_decide_eq_true this
 obtain ⟨h1, h2, h3, h4, h5, h6, h7⟩ := k
 simp only [evN, List.mem_cons, List.not_mem_nil, or_false] at hv
 unfold ok7
 rcases hv with rfl | rfl | rfl | rfl | rfl | rfl | rfl <;> omega
theorem a0g (h : s9s w) : ∀ e ∈ w.outs, ∀ v ∈ ouL e, ok7 v := by
 intro e he v hv
 have := (a0n h.2.2.2.2).2 e he
 have k : b6t e := of_decide_eq_true this
 obtain ⟨h1, h2, h3, h4, h5⟩ := k
 simp only [ouL, List.mem_cons, List.not_mem_nil, or_false] at hv
 unfold ok7
 rcases hv with rfl | rfl | rfl | rfl | rfl <;> omega
theorem a0q (h : s9s w) : ∀ v ∈ q2q w, ok7 v := by
 intro v hv
 have := h.1
 unfold r6r at this
 simp only [q2q, List.mem_cons, List.not_mem_nil, or_false] at hv
 unfold ok7
 rcases hv with rfl | rfl | rfl | rfl | rfl | rfl | rfl <;> omega
theorem a0l (h : a3z l) : ∀ v ∈ l, ok7 v := fun v hv => by have := h.2 v hv; unfold ok7; omega
theorem a2v (h : a3z l) : l.length ≤ 3 := by have := h.1; omega
theorem b5n (w : Wo) : b9c (q2q w) w.incs w.versions w.events w.outs = w := rfl
theorem r4r {v : Int} (h : ok7 v) : (w4w v).length ≤ 2 := by
 have h2 := h.2
 have h3 : (128 : Nat) ^ 2 = 16384 := by decide
 exact b7s 1 _ (by rw [h3]; omega)
theorem p9p : ∀ {l : List Int}, (∀ v ∈ l, ok7 v) → (u6u l).length ≤ 2 * l.length
 | [], _ => Nat.le_refl _
 | v :: l, h => by
  have h1 := r4r (h v (by simp))
  have h2 := p9p (l := l) fun x hx => h x (by simp [hx])
  simp only [u6u, List.flatMap_cons, List.length_append, List.length_cons] at h2 ⊢
  omega
theorem a2d : ∀ {l : List Ev}, (∀ e ∈ l, ∀ v ∈ evN e, ok7 v) → (r2r l).length ≤ 14 * l.length
 | [], _ => Nat.le_refl _
 | x :: l, h => by
  have h1 := p9p (h x (by simp))
  have h2 := a2d (l := l) fun y hy => h y (by simp [hy])
  have h3 : (evN x).length = 7 := rfl
  simp only [r2r, List.flatMap_cons, List.length_append, List.length_cons] at h2 ⊢
  omega
theorem a2e : ∀ {l : List Ou}, (∀ e ∈ l, ∀ v ∈ ouL e, ok7 v) → (r9r l).length ≤ 10 * l.length
 | [], _ => Nat.le_refl _
 | x :: l, h => by
  have h1 := p9p (h x (by simp))
  have h2 := a2e (l := l) fun y hy => h y (by simp [hy])
  have h3 : (ouL x).length = 5 := rfl
  simp only [r9r, List.flatMap_cons, List.length_append, List.length_cons] at h2 ⊢
  omega
theorem a1f (l : List Int) (v : Int) : u6u (l ++ [v]) = u6u l ++ w4w v := by simp [u6u]
theorem a8o (l : List Ev) (e : Ev) : r2r (l ++ [e]) = r2r l ++ u6u (evN e) := by simp [r2r]
theorem a8p (l : List Ou) (e : Ou) : r9r (l ++ [e]) = r9r l ++ u6u (ouL e) := by simp [r9r]
theorem a3k (l : List Int) : ∀ b ∈ u6u l, b < 256 := by
 intro b hb
 obtain ⟨v, _, h⟩ := List.mem_flatMap.1 hb
 exact b5i _ b h
theorem a5q (w : Wo) : ∀ b ∈ a3u w, b < 256 := by
 intro b hb
 unfold a3u at hb
 split at hb
 ·have hE : ∀ l : List Ev, ∀ b ∈ r2r l, b < 256 := fun l b hb => by
   obtain ⟨e, _, h⟩ := List.mem_flatMap.1 hb
   exact a3k _ b h
  have hO : ∀ l : List Ou, ∀ b ∈ r9r l, b < 256 := fun l b hb => by
   obtain ⟨e, _, h⟩ := List.mem_flatMap.1 hb
   exact a3k _ b h
  have hN : ∀ v : Int, ∀ b ∈ w4w v, b < 256 := fun v b hb => b5i _ b hb
  simp only [a6o, List.mem_append] at hb
  rcases hb with ((((((((h | h) | h) | h) | h) | h) | h) | h) | h)
  ·exact a3k _ b h
  ·exact hN _ b h
  ·exact a3k _ b h
  ·exact hN _ b h
  ·exact a3k _ b h
  ·exact hN _ b h
  ·exact hE _ b h
  ·exact hN _ b h
  ·exact hO _ b h
 ·cases hb

theorem c4b (e : a6o w = bs) : bs = [] ++ (u6u (q2q w) ++ (w4w w.incs.length ++ u6u w.incs ++ w4w w.versions.length ++ u6u w.versions ++ (w4w w.events.length ++ r2r w.events) ++ (w4w w.outs.length ++ r9r w.outs))) := by
 rw [← e]; simp [a6o]
def eW1 (w : Wo) := u6u (q2q w)
def eW2 (w : Wo) := eW1 w ++ w4w w.incs.length
def eW3 (w : Wo) := eW2 w ++ u6u w.incs
def eW4 (w : Wo) := eW3 w ++ w4w w.versions.length
def eW5 (w : Wo) := eW4 w ++ u6u w.versions
def eW6 (w : Wo) := eW5 w ++ w4w w.events.length
def eW7 (w : Wo) := eW6 w ++ r2r w.events
def eW8 (w : Wo) := eW7 w ++ w4w w.outs.length
theorem c8x (h : s9s w) (e : a6o w = bs) : uWo bs = w ∧ (uO bs).2 = ⟨bs.length, none⟩ := by
 have k1 : uH bs = (q2q w, ⟨(eW1 w).length, none⟩) := by
  have := a5n (bs := bs) (l := q2q w) (pre := []) (a0q h) (c4b e)
  exact this
 have c1 := a5p (bs := bs) (n := w.incs.length) (pre := eW1 w) (most := 3) (post := u6u w.incs ++ w4w w.versions.length ++ u6u w.versions ++ (w4w w.events.length ++ r2r w.events) ++ (w4w w.outs.length ++ r9r w.outs)) (by have := a2v h.2.1; omega) (by have := a2v h.2.1; omega) (by rw [← e]; simp [a6o, eW1])
 have k2 : uA bs = (w.incs, ⟨(eW3 w).length, none⟩) := by
  unfold uA a9i
  rw [k1]
  show a4e bs (s0s bs 3 ⟨(eW1 w).length, none⟩).1.toNat (s0s bs 3 ⟨(eW1 w).length, none⟩).2 = _
  rw [c1]
  exact a5n (pre := eW2 w) (post := w4w w.versions.length ++ u6u w.versions ++ (w4w w.events.length ++ r2r w.events) ++ (w4w w.outs.length ++ r9r w.outs)) (a0l h.2.1) (by rw [← e]; simp [a6o, eW1, eW2])
 have c2 := a5p (bs := bs) (n := w.versions.length) (pre := eW3 w) (most := 3) (post := u6u w.versions ++ (w4w w.events.length ++ r2r w.events) ++ (w4w w.outs.length ++ r9r w.outs)) (by have := a2v h.2.2.1; omega) (by have := a2v h.2.2.1; omega) (by rw [← e]; simp [a6o, eW1, eW2, eW3])
 have k3 : uB bs = (w.versions, ⟨(eW5 w).length, none⟩) := by
  unfold uB a9i
  rw [k2]
  show a4e bs (s0s bs 3 ⟨(eW3 w).length, none⟩).1.toNat (s0s bs 3 ⟨(eW3 w).length, none⟩).2 = _
  rw [c2]
  exact a5n (pre := eW4 w) (post := (w4w w.events.length ++ r2r w.events) ++ (w4w w.outs.length ++ r9r w.outs)) (a0l h.2.2.1) (by rw [← e]; simp [a6o, eW1, eW2, eW3, eW4])
 have l1 := (a0n h.2.2.2.1).1
 have l2 := (a0n h.2.2.2.2).1
 have c3 := a5p (bs := bs) (n := w.events.length) (pre := eW5 w) (most := 100) (post := r2r w.events ++ (w4w w.outs.length ++ r9r w.outs)) (by omega) (by omega) (by rw [← e]; simp [a6o, eW1, eW2, eW3, eW4, eW5])
 have k4 : uE bs = (w.events, ⟨(eW7 w).length, none⟩) := by
  unfold uE c2z
  rw [k3]
  show b3y bs (s0s bs 100 ⟨(eW5 w).length, none⟩).1.toNat (s0s bs 100 ⟨(eW5 w).length, none⟩).2 = _
  rw [c3]
  exact b7z (pre := eW6 w) (post := w4w w.outs.length ++ r9r w.outs) (a0f h) (by rw [← e]; simp [a6o, eW1, eW2, eW3, eW4, eW5, eW6])
 have c4 := a5p (bs := bs) (n := w.outs.length) (pre := eW7 w) (most := 96) (post := r9r w.outs) (by omega) (by omega) (by rw [← e]; simp [a6o, eW1, eW2, eW3, eW4, eW5, eW6, eW7])
 have k5 : uO bs = (w.outs, ⟨(eW8 w ++ r9r w.outs).length, none⟩) := by
  unfold uO c3a
  rw [k4]
  show b5j bs (s0s bs 96 ⟨(eW7 w).length, none⟩).1.toNat (s0s bs 96 ⟨(eW7 w).length, none⟩).2 = _
  rw [c4]
  exact b8a (pre := eW8 w) (post := []) (a0g h) (by rw [← e]; simp [a6o, eW1, eW2, eW3, eW4, eW5, eW6, eW7, eW8])
 refine ⟨?_, ?_⟩
 ·unfold uWo
  rw [k1, k2, k3, k4, k5]
  exact b5n w
 ·rw [k5, ← e]
  simp [a6o, eW1, eW2, eW3, eW4, eW5, eW6, eW7, eW8]
theorem c8y (h : s9s w) (e : a6o w = bs) : sW bs = (w, ⟨bs.length, false⟩) := by
 have k1 : sH bs = (q2q w, ⟨(eW1 w).length, false⟩) := by
  have := a5o (bs := bs) (l := q2q w) (pre := []) (a0q h) (c4b e)
  exact this
 have ok (n : Nat) (hn : n ≤ 100) : ok7 (n : Int) := ⟨by omega, by omega⟩
 have c1 := a7s (bs := bs) (v := (w.incs.length : Int)) (pre := eW1 w) (post := u6u w.incs ++ w4w w.versions.length ++ u6u w.versions ++ (w4w w.events.length ++ r2r w.events) ++ (w4w w.outs.length ++ r9r w.outs)) (ok _ (by have := a2v h.2.1; omega)) (by rw [← e]; simp [a6o, eW1])
 have k2 : sA bs = (w.incs, ⟨(eW3 w).length, false⟩) := by
  unfold sA b8x
  rw [k1]
  show a0u bs (a1i bs ⟨(eW1 w).length, false⟩).1.toNat (a1i bs ⟨(eW1 w).length, false⟩).2 = _
  rw [c1]
  exact a5o (pre := eW2 w) (post := w4w w.versions.length ++ u6u w.versions ++ (w4w w.events.length ++ r2r w.events) ++ (w4w w.outs.length ++ r9r w.outs)) (a0l h.2.1) (by rw [← e]; simp [a6o, eW1, eW2])
 have c2 := a7s (bs := bs) (v := (w.versions.length : Int)) (pre := eW3 w) (post := u6u w.versions ++ (w4w w.events.length ++ r2r w.events) ++ (w4w w.outs.length ++ r9r w.outs)) (ok _ (by have := a2v h.2.2.1; omega)) (by rw [← e]; simp [a6o, eW1, eW2, eW3])
 have k3 : sB bs = (w.versions, ⟨(eW5 w).length, false⟩) := by
  unfold sB b8x
  rw [k2]
  show a0u bs (a1i bs ⟨(eW3 w).length, false⟩).1.toNat (a1i bs ⟨(eW3 w).length, false⟩).2 = _
  rw [c2]
  exact a5o (pre := eW4 w) (post := (w4w w.events.length ++ r2r w.events) ++ (w4w w.outs.length ++ r9r w.outs)) (a0l h.2.2.1) (by rw [← e]; simp [a6o, eW1, eW2, eW3, eW4])
 have l1 := (a0n h.2.2.2.1).1
 have l2 := (a0n h.2.2.2.2).1
 have c3 := a7s (bs := bs) (v := (w.events.length : Int)) (pre := eW5 w) (post := r2r w.events ++ (w4w w.outs.length ++ r9r w.outs)) (ok _ (by omega)) (by rw [← e]; simp [a6o, eW1, eW2, eW3, eW4, eW5])
 have k4 : sE bs = (w.events, ⟨(eW7 w).length, false⟩) := by
  unfold sE c9o
  rw [k3]
  show a9m bs (a1i bs ⟨(eW5 w).length, false⟩).1.toNat (a1i bs ⟨(eW5 w).length, false⟩).2 = _
  rw [c3]
  exact b8c (pre := eW6 w) (post := w4w w.outs.length ++ r9r w.outs) (a0f h) (by rw [← e]; simp [a6o, eW1, eW2, eW3, eW4, eW5, eW6])
 have c4 := a7s (bs := bs) (v := (w.outs.length : Int)) (pre := eW7 w) (post := r9r w.outs) (ok _ (by omega)) (by rw [← e]; simp [a6o, eW1, eW2, eW3, eW4, eW5, eW6, eW7])
 have k5 : sO bs = (w.outs, ⟨(eW8 w ++ r9r w.outs).length, false⟩) := by
  unfold sO c9p
  rw [k4]
  show a5t bs (a1i bs ⟨(eW7 w).length, false⟩).1.toNat (a1i bs ⟨(eW7 w).length, false⟩).2 = _
  rw [c4]
  exact b8d (pre := eW8 w) (post := []) (a0g h) (by rw [← e]; simp [a6o, eW1, eW2, eW3, eW4, eW5, eW6, eW7, eW8])
 unfold sW
 rw [k1, k2, k3, k4, k5, if_neg (by simp), b5n]
 refine Prod.ext rfl ?_
 rw [← e]
 simp [a6o, eW1, eW2, eW3, eW4, eW5, eW6, eW7, eW8]
theorem c6f (n : Nat) : b2e n ≠ [] := by
 by_cases h : n < 128
 ·rw [a4q h]; simp
 ·rw [a6j h]; simp
theorem c6g (w : Wo) : a6o w ≠ [] := by
 intro h
 have := congrArg List.length h
 simp only [a6o, List.length_append, List.length_nil] at this
 have h2 := List.length_pos_iff.2 (c6f ((w.incs.length : Int) + 1).toNat)
 unfold w4w at this
 omega
theorem c6h (bs : List Nat) : (a8n bs → b1a bs ∧ (sW bs).1 = uWo bs) ∧ (b1a bs → a8n bs) := by
 constructor
 ·intro ⟨h1, h2, h3, h4⟩
  have e : a6o (uWo bs) = bs := by rw [a8l h3] at h4; exact h4
  have k := c8y h3 e
  have k1 : (sW bs).1 = uWo bs := by rw [k]
  exact ⟨⟨by rw [k], by rw [← e]; exact c6g _, by rw [k1]; exact h4⟩, k1⟩
 ·intro ⟨h1, h2, h3⟩
  have hw : s9s (sW bs).1 := Classical.byContradiction fun hn => h2 (by rw [a8m hn] at h3; exact h3.symm)
  have e : a6o (sW bs).1 = bs := by rw [a8l hw] at h3; exact h3
  obtain ⟨k1, k2⟩ := c8x hw e
  exact ⟨by rw [k2], by rw [k2], by rw [k1]; exact hw, by rw [k1]; exact h3⟩
theorem c1s (bs : List Nat) : a2f bs = q9q bs := by
 obtain ⟨h1, h2⟩ := c6h bs
 unfold a2f q9q
 by_cases h : a8n bs
 ·rw [if_pos h, if_pos (h1 h).1, (h1 h).2]
 ·rw [if_neg h, if_neg (fun k => h (h2 k))]
end
section
def a7y : Option (Nat × Nat) → Value
 | none => .nilIface
 | some (p, f) => .iface 107 (.agg #[.int .i64 (p : Int), .iface 58 (.int .i64 (f : Int))])
variable {n : Int}
theorem b5o (h0 : 0 ≤ n) (h1 : n < 256) : IntKind.u8.wrap n = n := by
 unfold IntKind.wrap
 simp only [IntKind.signed, IntKind.bits, Bool.false_and, Bool.false_eq_true, if_false]
 omega
theorem b3v (h0 : 0 ≤ n) (h1 : n < 9223372036854775808) : IntKind.u64.wrap n = n := by
 unfold IntKind.wrap
 simp only [IntKind.signed, IntKind.bits, Bool.false_and, Bool.false_eq_true, if_false]
 omega
variable {q : Nat}
theorem c7o (h : q < 9223372036854775808) : Value.int .u64 (IntKind.u64.wrap (BitVec.ofInt IntKind.u64.bits (q : Int) &&& BitVec.ofInt IntKind.u64.bits 127).toNat) = .int .u64 ((q % 128 : Nat) : Int) := by
 have e1 : IntKind.u64.bits = 64 := rfl
 have e : (BitVec.ofInt IntKind.u64.bits (q : Int) &&& BitVec.ofInt IntKind.u64.bits 127).toNat = q % 128 := by
  rw [BitVec.toNat_and, BitVec.toNat_ofInt, BitVec.toNat_ofInt, e1]
  have k1 : ((q : Int) % ((2 ^ 64 : Nat) : Int)).toNat = q := by omega
  have k2 : ((127 : Int) % ((2 ^ 64 : Nat) : Int)).toNat = 127 := by omega
  rw [k1, k2]
  exact Nat.and_two_pow_sub_one_eq_mod q 7
 rw [e, b3v (by omega) (by omega)]
theorem c8z (h : q < 128) : Value.int .u8 (IntKind.u8.wrap (BitVec.ofInt IntKind.u8.bits (q : Int) ||| BitVec.ofInt IntKind.u8.bits 128).toNat) = .int .u8 ((128 + q : Nat) : Int) := by
 have e : ∀ x : Fin 128, (BitVec.ofInt IntKind.u8.bits ((x.val : Nat) : Int) ||| BitVec.ofInt IntKind.u8.bits 128).toNat = 128 + x.val := by decide
 have := e ⟨q, h⟩
 dsimp only at this
 rw [this, b5o (by omega) (by omega)]
theorem d0h (q : Nat) : Value.int .u64 ((q : Int).fdiv (2 ^ (min (7 : Int).toNat IntKind.u64.bits))) = .int .u64 ((q / 128 : Nat) : Int) := by
 have e : (q : Int).fdiv (2 ^ (min (7 : Int).toNat IntKind.u64.bits)) = ((q / 128 : Nat) : Int) := by
  show (q : Int).fdiv 128 = _
  rw [Int.fdiv_eq_ediv_of_nonneg _ (by omega)]
  omega
 rw [e]
theorem b1d (h : q < 256) : Value.int .u8 (IntKind.u8.wrap (BitVec.ofInt IntKind.u8.bits (q : Int) &&& BitVec.ofInt IntKind.u8.bits 127).toNat) = .int .u8 ((q % 128 : Nat) : Int) := by
 have e1 : IntKind.u8.bits = 8 := rfl
 have e : (BitVec.ofInt IntKind.u8.bits (q : Int) &&& BitVec.ofInt IntKind.u8.bits 127).toNat = q % 128 := by
  rw [BitVec.toNat_and, BitVec.toNat_ofInt, BitVec.toNat_ofInt, e1]
  have k1 : ((q : Int) % ((2 ^ 8 : Nat) : Int)).toNat = q := by omega
  have k2 : ((127 : Int) % ((2 ^ 8 : Nat) : Int)).toNat = 127 := by omega
  rw [k1, k2]
  exact Nat.and_two_pow_sub_one_eq_mod q 7
 rw [e, b5o (by omega) (by omega)]
theorem orM {v x M : Nat} (i : Nat) (hM : M = 2 ^ i) (hv : v < M) (hb : v + x * M < 9223372036854775808) : Value.int .u64 (IntKind.u64.wrap (BitVec.ofInt IntKind.u64.bits (v : Int) ||| BitVec.ofInt IntKind.u64.bits ((x * M : Nat) : Int)).toNat) = .int .u64 ((v + x * M : Nat) : Int) := by
 have e1 : IntKind.u64.bits = 64 := rfl
 have e : (BitVec.ofInt IntKind.u64.bits (v : Int) ||| BitVec.ofInt IntKind.u64.bits ((x * M : Nat) : Int)).toNat = v + x * M := by
  generalize hy : x * M = y at hb ⊢
  rw [BitVec.toNat_or, BitVec.toNat_ofInt, BitVec.toNat_ofInt, e1]
  have k1 : ((v : Int) % ((2 ^ 64 : Nat) : Int)).toNat = v := by omega
  have k2 : ((y : Int) % ((2 ^ 64 : Nat) : Int)).toNat = y := by omega
  rw [k1, k2, ← hy, hM, Nat.mul_comm x, Nat.or_comm, ← Nat.two_pow_add_eq_or_of_lt (by rw [← hM]; exact hv), Nat.add_comm]
 rw [e, b3v (by omega) (by omega)]
variable {x M : Nat}
theorem c7p (s : Nat) (hM : M = 2 ^ (min s 64)) (hb : x * M < 9223372036854775808) : Value.int .u64 (IntKind.u64.wrap ((x : Int) * 2 ^ (min ((s : Nat) : Int).toNat IntKind.u64.bits))) = .int .u64 ((x * M : Nat) : Int) := by
 have e : (x : Int) * 2 ^ (min ((s : Nat) : Int).toNat IntKind.u64.bits) = ((x * M : Nat) : Int) := by
  rw [Int.toNat_natCast, hM]
  show (x : Int) * 2 ^ (min s 64) = _
  push_cast
  rfl
 rw [e, b3v (by omega) (by omega)]
theorem b8y (b : Nat) : StrC (a1o b) := .cons (.pv _) rfl .nil
end
section
theorem q1q  : a2g Try.prog 58 [] (.pv (.int .i64 9999)) := by
 refine u9u x9x (fn := Try.f58) (by kernel_rfl) (by kernel_rfl) rfl (outs := [.pv (.int .i64 9999)]) (by rfl) (u3u rfl) 0 ?_
 refine x7x x9x (by rfl) ?_
 refine x2x rfl ?_
 refine x7x x9x (by rfl) ?_
 refine x2x rfl ?_
 refine y6y ⟨.inr rfl, ?_⟩
 exact z9z rfl rfl rfl
end
section
set_option maxRecDepth 20000 in
theorem b1q (bs : List Nat) (hbs : ∀ b ∈ bs, b < 256) (p0 : Nat) (hp : p0 + 200 ≤ 100000000) : MethE Try.prog 19 1 [.ptr 0 0 0] [(0, (0, .box 76 [v5v true bs, .pv (.int .i64 ((p0 : Nat) : Int))]))] (ι := Wo × Nat) (fun S' => S'.2 ≤ p0 + 100) (fun S' => [0]) (fun S' => .agg (a5s true S'.1)) (fun S' => [(0, (0, .box 76 [v5v true bs, .pv (.int .i64 ((S'.2 : Nat) : Int))]))]) := by
 refine a1q x9x (fn := Try.f19) (by kernel_rfl) (by kernel_rfl) rfl (ι := Wo × Nat) (OF := fun S' => [.agg (a5s true S'.1)]) 1 10 (u3u rfl) (by rfl) (fun _ _ => by rfl) (by repeat (first | exact BndH.nil | refine BndH.box rfl ?_)) (fun _ _ => (by repeat (first | exact BndH.nil | refine BndH.box rfl ?_))) (fun _ _ => by rfl) fun γ => ?_
 show Ex Try.prog _ _ [(0, .ptr 0 (γ 0) 0)] [(0, ((γ 0), .box 76 [v5v true bs, .pv (.int .i64 ((p0 : Nat) : Int))])), (10, (0, .dead)), (9, (0, .dead)), (8, (0, .dead)), (7, (0, .dead)), (6, (0, .dead)), (5, (0, .dead)), (4, (0, .dead)), (3, (0, .dead)), (2, (0, .dead)), (1, (0, .dead))] _
 refine x7x x9x (by rfl) ?_
 refine q0q (id := 1) z5z a2y rfl ?_
 refine x7x x9x (by rfl) ?_
 refine x0x rfl ?_
 refine z1z [0] [_] (y4y true bs (p0) (7) (by have := hp; omega) hbs) rfl rfl rfl (by decide) rfl rfl (by repeat (first | exact InH.nil | refine InH.cons rfl ?_)) (by (simp only [pI, y2y, y3y, v4v, gl, nx, v2v, Nat.beq]; rfl)) (by (simp only [pI, y2y, y3y, v4v, gl, nx, v2v, Nat.beq]; rfl)) ?_
 have q1 := a1n bs (p0) 7 (by omega)
 refine u5u (.int .i64 (1 + (pk bs (p0) 7 : Int))) rfl rfl rfl (q3q rfl (by omega) (by omega) (by omega)) ?_
 refine x0x rfl ?_
 refine z1z [0] [_] (y4y true bs (p0 + 1) (3) (by have := hp; omega) hbs) rfl rfl rfl (by decide) rfl rfl (by repeat (first | exact InH.nil | refine InH.cons rfl ?_)) (by (simp only [pI, y2y, y3y, v4v, gl, nx, v2v, Nat.beq]; rfl)) (by (simp only [pI, y2y, y3y, v4v, gl, nx, v2v, Nat.beq]; rfl)) ?_
 refine x0x rfl ?_
 refine z1z [0] [_] (y4y true bs (p0 + 1 + 1) (3) (by have := hp; omega) hbs) rfl rfl rfl (by decide) rfl rfl (by repeat (first | exact InH.nil | refine InH.cons rfl ?_)) (by (simp only [pI, y2y, y3y, v4v, gl, nx, v2v, Nat.beq]; rfl)) (by (simp only [pI, y2y, y3y, v4v, gl, nx, v2v, Nat.beq]; rfl)) ?_
 refine x0x rfl ?_
 refine z1z [0] [_] (y4y true bs (p0 + 1 + 1 + 1) (3) (by have := hp; omega) hbs) rfl rfl rfl (by decide) rfl rfl (by repeat (first | exact InH.nil | refine InH.cons rfl ?_)) (by (simp only [pI, y2y, y3y, v4v, gl, nx, v2v, Nat.beq]; rfl)) (by (simp only [pI, y2y, y3y, v4v, gl, nx, v2v, Nat.beq]; rfl)) ?_
 have q2 := a1n bs (p0 + 1 + 1 + 1) 3 (by omega)
 refine u5u (.int .i64 (1 + (pk bs (p0 + 1 + 1 + 1) 3 : Int))) rfl rfl rfl (q3q rfl (by omega) (by omega) (by omega)) ?_
 refine x0x rfl ?_
 refine z1z [0] [_] (y4y true bs (p0 + 1 + 1 + 1 + 1) (6) (by have := hp; omega) hbs) rfl rfl rfl (by decide) rfl rfl (by repeat (first | exact InH.nil | refine InH.cons rfl ?_)) (by (simp only [pI, y2y, y3y, v4v, gl, nx, v2v, Nat.beq]; rfl)) (by (simp only [pI, y2y, y3y, v4v, gl, nx, v2v, Nat.beq]; rfl)) ?_
 refine x0x rfl ?_
 refine z1z [0] [_] (y4y true bs (p0 + 1 + 1 + 1 + 1 + 1) (3) (by have := hp; omega) hbs) rfl rfl rfl (by decide) rfl rfl (by repeat (first | exact InH.nil | refine InH.cons rfl ?_)) (by (simp only [pI, y2y, y3y, v4v, gl, nx, v2v, Nat.beq]; rfl)) (by (simp only [pI, y2y, y3y, v4v, gl, nx, v2v, Nat.beq]; rfl)) ?_
 have q3 := a1n bs (p0 + 1 + 1 + 1 + 1 + 1) 3 (by omega)
 refine u5u (.int .i64 (1 + (pk bs (p0 + 1 + 1 + 1 + 1 + 1) 3 : Int))) rfl rfl rfl (q3q rfl (by omega) (by omega) (by omega)) ?_
 refine x0x rfl ?_
 refine z1z [0] [_] (y4y true bs (p0 + 1 + 1 + 1 + 1 + 1 + 1) (12) (by have := hp; omega) hbs) rfl rfl rfl (by decide) rfl rfl (by repeat (first | exact InH.nil | refine InH.cons rfl ?_)) (by (simp only [pI, y2y, y3y, v4v, gl, nx, v2v, Nat.beq]; rfl)) (by (simp only [pI, y2y, y3y, v4v, gl, nx, v2v, Nat.beq]; rfl)) ?_
 refine r3r z5z rfl a2y rfl (by simp only [pI, y5y, T3, u1u, T24, w2w, T25, w5w, T26, a0v, p2p, AV.okc, AV.one, Value.oneCell', List.map_cons, List.map_nil, List.getElem?_cons_zero, List.getElem?_cons_succ, List.take_succ_cons, List.take_zero, List.drop_succ_cons, List.drop_zero, List.cons_append, List.nil_append, List.length_cons, List.length_nil, if_true, and_self, Nat.reduceAdd, Nat.reduceLeDiff]; rfl) ?_
 refine q0q (id := 2) z5z a2y rfl ?_
 refine u2u rfl rfl z5z rfl rfl rfl rfl ?_
 refine a5x 2 rfl (.same (.same (.same (.same (.same (.same (.same (.le (b := p1p true []) rfl .nil rfl (.le (b := p1p true []) rfl .nil rfl (.le (b := a7x true []) rfl .nil rfl (.le (b := a6n true []) rfl .nil rfl (LeCs.refl _)))))))))))) ?_
 refine x8x fun K1 hK1 => ?_
 refine x7x x9x (by rfl) ?_
 refine x0x rfl ?_
 refine z1z [0] [_] (y4y true bs (p0 + 1 + 1 + 1 + 1 + 1 + 1 + 1) (5) (by have := hp; omega) hbs) rfl rfl rfl (by decide) rfl rfl (by repeat (first | exact InH.nil | refine InH.cons rfl ?_)) (by (simp only [pI, y2y, y3y, v4v, gl, nx, v2v, Nat.beq]; rfl)) (by (simp only [pI, y2y, y3y, v4v, gl, nx, v2v, Nat.beq]; rfl)) ?_
 refine y7y ?_
 refine x7x x9x (by rfl) ?_
 refine z0z rfl rfl rfl ?_
 refine x2x rfl ?_
 refine y1y rfl (fun hc2 => ?_) (fun hc2 => ?_)
 ·try simp at hc2
  refine x7x x9x (by rfl) ?_
  refine x0x rfl ?_
  refine z1z [0] [_] (y4y true bs (p0 + 1 + 1 + 1 + 1 + 1 + 1 + 1 + 1) (2) (by have := hp; omega) hbs) rfl rfl rfl (by decide) rfl rfl (by repeat (first | exact InH.nil | refine InH.cons rfl ?_)) (by (simp only [pI, y2y, y3y, v4v, gl, nx, v2v, Nat.beq]; rfl)) (by (simp only [pI, y2y, y3y, v4v, gl, nx, v2v, Nat.beq]; rfl)) ?_
  refine u0u (id := 3) u1u rfl y5y rfl rfl rfl rfl (.val rfl rfl (.val rfl rfl (.val rfl rfl .nil))) rfl (u3u rfl) (u3u rfl) (u3u rfl) rfl rfl ?_
  refine x1x rfl z5z rfl rfl u1u rfl rfl ?_
  refine z8z rfl rfl u1u rfl rfl rfl rfl rfl (by simp only [a2b]; rfl) ?_
  refine y0y x9x (by rfl) ?_
  refine x0x rfl ?_
  refine z1z [0] [_] (y4y true bs (p0 + 1 + 1 + 1 + 1 + 1 + 1 + 1 + 1 + 1) (3) (by have := hp; omega) hbs) rfl rfl rfl (by decide) rfl rfl (by repeat (first | exact InH.nil | refine InH.cons rfl ?_)) (by (simp only [pI, y2y, y3y, v4v, gl, nx, v2v, Nat.beq]; rfl)) (by (simp only [pI, y2y, y3y, v4v, gl, nx, v2v, Nat.beq]; rfl)) ?_
  refine u0u (id := 4) u1u rfl y5y rfl rfl rfl rfl (.val rfl rfl (.val rfl rfl (.val rfl rfl .nil))) rfl (u3u rfl) (u3u rfl) (u3u rfl) rfl rfl ?_
  refine x1x rfl z5z rfl rfl u1u rfl rfl ?_
  refine z8z rfl rfl u1u rfl rfl rfl rfl rfl (by simp only [a2b]; rfl) ?_
  refine hK1 _ _ ?_
  clear hK1 K1
  refine x8x fun K3 hK3 => ?_
  (obtain ⟨q, hqe⟩ : ∃ q, q = p0 + 1 + 1 + 1 + 1 + 1 + 1 + 1 + 1 + 1 + 1 := ⟨_, rfl⟩; rw [← hqe])
  have hq : q ≤ p0 + 80 := by omega
  try (refine p5p (b := p1p true [(pk bs (p0 + 1 + 1 + 1 + 1 + 1 + 1 + 1 + 1) 2 : Int), 1, 1]) 2 7 rfl rfl rfl (.ref rfl (Le.ow_map (f := a2m) [(pk bs (p0 + 1 + 1 + 1 + 1 + 1 + 1 + 1 + 1) 2 : Int), 1, 1] (fun _ => rfl) (fun _ => rfl)) .nil) rfl rfl rfl rfl ?_; refine p5p (b := p1p true [1, (pk bs (p0 + 1 + 1 + 1 + 1 + 1 + 1 + 1 + 1 + 1) 3 : Int), 1]) 2 8 rfl rfl rfl (.ref rfl (Le.ow_map (f := a2m) [1, (pk bs (p0 + 1 + 1 + 1 + 1 + 1 + 1 + 1 + 1 + 1) 3 : Int), 1] (fun _ => rfl) (fun _ => rfl)) .nil) rfl rfl rfl rfl ?_)
  refine x7x x9x (by rfl) ?_
  refine x0x rfl ?_
  refine z1z [0] [_] (y4y true bs (q) (20) (by have := hq; omega) hbs) rfl rfl rfl (by decide) rfl rfl (by repeat (first | exact InH.nil | refine InH.cons rfl ?_)) (by (simp only [pI, y2y, y3y, v4v, gl, nx, v2v, Nat.beq]; rfl)) (by (simp only [pI, y2y, y3y, v4v, gl, nx, v2v, Nat.beq]; rfl)) ?_
  refine y7y ?_
  refine x7x x9x (by rfl) ?_
  refine z0z rfl rfl rfl ?_
  refine x2x rfl ?_
  refine y1y rfl (fun hc4 => ?_) (fun hc4 => ?_)
  ·try simp at hc4
   refine y0y x9x (by rfl) ?_
   refine u0u (id := 6) u1u rfl y5y rfl rfl rfl rfl (.val rfl rfl (.val rfl rfl .nil)) rfl (u3u rfl) (u3u rfl) (u3u rfl) rfl rfl ?_
   refine x0x rfl ?_
   refine z1z [0] [_] (y4y true bs (q + 1) (2) (by have := hq; omega) hbs) rfl rfl rfl (by decide) rfl rfl (by repeat (first | exact InH.nil | refine InH.cons rfl ?_)) (by (simp only [pI, y2y, y3y, v4v, gl, nx, v2v, Nat.beq]; rfl)) (by (simp only [pI, y2y, y3y, v4v, gl, nx, v2v, Nat.beq]; rfl)) ?_
   obtain ⟨z, ez, hz⟩ : ∃ z, pk bs (q + 1) 2 = z ∧ z < 2 := ⟨_, rfl, a1n _ _ _ (by omega)⟩
   rw [ez]
   obtain ⟨v, hv⟩ : ∃ x, ([0, 8] : List Int)[z]? = some x := ⟨_, List.getElem?_eq_getElem hz⟩
   refine w6w (f := fun x : Int => [pI x]) (l := [0, 8]) (j := z) rfl rfl u1u rfl y5y rfl rfl hz ?_
   refine w8w (f := fun x : Int => [pI x]) (l := [0, 8]) rfl y5y rfl hv rfl ?_
   refine x1x rfl z5z rfl rfl y5y rfl rfl ?_
   refine z8z rfl rfl y5y rfl rfl rfl rfl rfl (by simp only [a2b]; rfl) ?_
   refine hK3 _ _ ?_
   clear hK3 K3
   try (refine p5p (b := p1p true [1, 2]) 2 7 rfl rfl rfl (.ref rfl (Le.ow_map (f := a2m) [1, 2] (fun _ => rfl) (fun _ => rfl)) .nil) rfl rfl rfl rfl ?_)
   refine x7x x9x (by rfl) ?_
   refine z3z rfl z5z rfl rfl rfl ?_
   refine u2u rfl rfl z5z rfl rfl rfl rfl ?_
   refine y6y ?_
   refine ⟨.inr rfl, (⟨_, _, _, _, _, _, _, _, _, _, _⟩, _), ?_, [γ 0], rfl, rfl, HE.box rfl rfl HE.nil⟩
   show _ ≤ p0 + 100
   omega
  try simp at hc4
  refine x7x x9x (by rfl) ?_
  refine z0z rfl rfl rfl ?_
  refine x2x rfl ?_
  refine y1y rfl (fun hc5 => ?_) (fun hc5 => ?_)
  ·try simp at hc5
   refine y0y x9x (by rfl) ?_
   refine u0u (id := 7) u1u rfl y5y rfl rfl rfl rfl (.val rfl rfl (.val rfl rfl .nil)) rfl (u3u rfl) (u3u rfl) (u3u rfl) rfl rfl ?_
   refine x0x rfl ?_
   refine z1z [0] [_] (y4y true bs (q + 1) (2) (by have := hq; omega) hbs) rfl rfl rfl (by decide) rfl rfl (by repeat (first | exact InH.nil | refine InH.cons rfl ?_)) (by (simp only [pI, y2y, y3y, v4v, gl, nx, v2v, Nat.beq]; rfl)) (by (simp only [pI, y2y, y3y, v4v, gl, nx, v2v, Nat.beq]; rfl)) ?_
   obtain ⟨z, ez, hz⟩ : ∃ z, pk bs (q + 1) 2 = z ∧ z < 2 := ⟨_, rfl, a1n _ _ _ (by omega)⟩
   rw [ez]
   obtain ⟨v, hv⟩ : ∃ x, ([-1, 3] : List Int)[z]? = some x := ⟨_, List.getElem?_eq_getElem hz⟩
   refine w6w (f := fun x : Int => [pI x]) (l := [-1, 3]) (j := z) rfl rfl u1u rfl y5y rfl rfl hz ?_
   refine w8w (f := fun x : Int => [pI x]) (l := [-1, 3]) rfl y5y rfl hv rfl ?_
   refine x1x rfl z5z rfl rfl y5y rfl rfl ?_
   refine z8z rfl rfl y5y rfl rfl rfl rfl rfl (by simp only [a2b]; rfl) ?_
   refine hK3 _ _ ?_
   clear hK3 K3
   try (refine p5p (b := p1p true [1, 2]) 2 7 rfl rfl rfl (.ref rfl (Le.ow_map (f := a2m) [1, 2] (fun _ => rfl) (fun _ => rfl)) .nil) rfl rfl rfl rfl ?_)
   refine x7x x9x (by rfl) ?_
   refine z3z rfl z5z rfl rfl rfl ?_
   refine u2u rfl rfl z5z rfl rfl rfl rfl ?_
   refine y6y ?_
   refine ⟨.inr rfl, (⟨_, _, _, _, _, _, _, _, _, _, _⟩, _), ?_, [γ 0], rfl, rfl, HE.box rfl rfl HE.nil⟩
   show _ ≤ p0 + 100
   omega
  try simp at hc5
  refine x7x x9x (by rfl) ?_
  refine z0z rfl rfl rfl ?_
  refine x2x rfl ?_
  refine y1y rfl (fun hc6 => ?_) (fun hc6 => ?_)
  ·try simp at hc6
   refine y0y x9x (by rfl) ?_
   refine u0u (id := 8) u1u rfl y5y rfl rfl rfl rfl (.val rfl rfl (.val rfl rfl (.val rfl rfl .nil))) rfl (u3u rfl) (u3u rfl) (u3u rfl) rfl rfl ?_
   refine x0x rfl ?_
   refine z1z [0] [_] (y4y true bs (q + 1) (3) (by have := hq; omega) hbs) rfl rfl rfl (by decide) rfl rfl (by repeat (first | exact InH.nil | refine InH.cons rfl ?_)) (by (simp only [pI, y2y, y3y, v4v, gl, nx, v2v, Nat.beq]; rfl)) (by (simp only [pI, y2y, y3y, v4v, gl, nx, v2v, Nat.beq]; rfl)) ?_
   obtain ⟨z, ez, hz⟩ : ∃ z, pk bs (q + 1) 3 = z ∧ z < 3 := ⟨_, rfl, a1n _ _ _ (by omega)⟩
   rw [ez]
   obtain ⟨v, hv⟩ : ∃ x, ([-1, 41, 42] : List Int)[z]? = some x := ⟨_, List.getElem?_eq_getElem hz⟩
   refine w6w (f := fun x : Int => [pI x]) (l := [-1, 41, 42]) (j := z) rfl rfl u1u rfl y5y rfl rfl hz ?_
   refine w8w (f := fun x : Int => [pI x]) (l := [-1, 41, 42]) rfl y5y rfl hv rfl ?_
   refine x1x rfl z5z rfl rfl y5y rfl rfl ?_
   refine z8z rfl rfl y5y rfl rfl rfl rfl rfl (by simp only [a2b]; rfl) ?_
   refine hK3 _ _ ?_
   clear hK3 K3
   try (refine p5p (b := p1p true [1, 2]) 2 7 rfl rfl rfl (.ref rfl (Le.ow_map (f := a2m) [1, 2] (fun _ => rfl) (fun _ => rfl)) .nil) rfl rfl rfl rfl ?_)
   refine x7x x9x (by rfl) ?_
   refine z3z rfl z5z rfl rfl rfl ?_
   refine u2u rfl rfl z5z rfl rfl rfl rfl ?_
   refine y6y ?_
   refine ⟨.inr rfl, (⟨_, _, _, _, _, _, _, _, _, _, _⟩, _), ?_, [γ 0], rfl, rfl, HE.box rfl rfl HE.nil⟩
   show _ ≤ p0 + 100
   omega
  try simp at hc6
  refine x7x x9x (by rfl) ?_
  refine z0z rfl rfl rfl ?_
  refine x2x rfl ?_
  refine y1y rfl (fun hc7 => ?_) (fun hc7 => ?_)
  ·try simp at hc7
   refine y0y x9x (by rfl) ?_
   refine u0u (id := 9) u1u rfl y5y rfl rfl rfl rfl (.val rfl rfl (.val rfl rfl .nil)) rfl (u3u rfl) (u3u rfl) (u3u rfl) rfl rfl ?_
   refine x1x rfl z5z rfl rfl u1u rfl rfl ?_
   refine z8z rfl rfl u1u rfl rfl rfl rfl rfl (by simp only [a2b]; rfl) ?_
   refine hK3 _ _ ?_
   clear hK3 K3
   try (refine p5p (b := p1p true [1, 2]) 2 7 rfl rfl rfl (.ref rfl (Le.ow_map (f := a2m) [1, 2] (fun _ => rfl) (fun _ => rfl)) .nil) rfl rfl rfl rfl ?_)
   refine x7x x9x (by rfl) ?_
   refine z3z rfl z5z rfl rfl rfl ?_
   refine u2u rfl rfl z5z rfl rfl rfl rfl ?_
   refine y6y ?_
   refine ⟨.inr rfl, (⟨_, _, _, _, _, _, _, _, _, _, _⟩, _), ?_, [γ 0], rfl, rfl, HE.box rfl rfl HE.nil⟩
   show _ ≤ p0 + 100
   omega
  try simp at hc7
  refine x7x x9x (by rfl) ?_
  refine z0z rfl rfl rfl ?_
  refine x2x rfl ?_
  refine y1y rfl (fun hc8 => ?_) (fun hc8 => ?_)
  rotate_left
  ·try simp at hc8
   refine y8y ?_
   refine hK3 _ _ ?_
   clear hK3 K3
   try (refine p5p (b := p1p true [1, 2]) 2 7 rfl rfl rfl (.ref rfl (Le.ow_map (f := a2m) [1, 2] (fun _ => rfl) (fun _ => rfl)) .nil) rfl rfl rfl rfl ?_)
   refine x7x x9x (by rfl) ?_
   refine z3z rfl z5z rfl rfl rfl ?_
   refine u2u rfl rfl z5z rfl rfl rfl rfl ?_
   refine y6y ?_
   refine ⟨.inr rfl, (⟨_, _, _, _, _, _, _, _, _, _, _⟩, _), ?_, [γ 0], rfl, rfl, HE.box rfl rfl HE.nil⟩
   show _ ≤ p0 + 100
   omega
  try simp at hc8
  refine y0y x9x (by rfl) ?_
  refine z7z rfl rfl rfl (q1q ..) ?_
  refine z7z rfl rfl rfl (q1q ..) ?_
  refine u5u (.int .i64 10000) rfl rfl rfl rfl ?_
  refine u0u (id := 10) u1u rfl y5y rfl rfl rfl rfl (.val rfl rfl (.val rfl rfl (.val rfl rfl .nil))) rfl (u3u rfl) (u3u rfl) (u3u rfl) rfl rfl ?_
  refine x0x rfl ?_
  refine z1z [0] [_] (y4y true bs (q + 1) (3) (by have := hq; omega) hbs) rfl rfl rfl (by decide) rfl rfl (by repeat (first | exact InH.nil | refine InH.cons rfl ?_)) (by (simp only [pI, y2y, y3y, v4v, gl, nx, v2v, Nat.beq]; rfl)) (by (simp only [pI, y2y, y3y, v4v, gl, nx, v2v, Nat.beq]; rfl)) ?_
  obtain ⟨z, ez, hz⟩ : ∃ z, pk bs (q + 1) 3 = z ∧ z < 3 := ⟨_, rfl, a1n _ _ _ (by omega)⟩
  rw [ez]
  obtain ⟨v, hv⟩ : ∃ x, ([-1, 9999, 10000] : List Int)[z]? = some x := ⟨_, List.getElem?_eq_getElem hz⟩
  refine w6w (f := fun x : Int => [pI x]) (l := [-1, 9999, 10000]) (j := z) rfl rfl u1u rfl y5y rfl rfl hz ?_
  refine w8w (f := fun x : Int => [pI x]) (l := [-1, 9999, 10000]) rfl y5y rfl hv rfl ?_
  refine x1x rfl z5z rfl rfl y5y rfl rfl ?_
  refine z8z rfl rfl y5y rfl rfl rfl rfl rfl (by simp only [a2b]; rfl) ?_
  refine hK3 _ _ ?_
  clear hK3 K3
  try (refine p5p (b := p1p true [1, 2]) 2 7 rfl rfl rfl (.ref rfl (Le.ow_map (f := a2m) [1, 2] (fun _ => rfl) (fun _ => rfl)) .nil) rfl rfl rfl rfl ?_)
  refine x7x x9x (by rfl) ?_
  refine z3z rfl z5z rfl rfl rfl ?_
  refine u2u rfl rfl z5z rfl rfl rfl rfl ?_
  refine y6y ?_
  refine ⟨.inr rfl, (⟨_, _, _, _, _, _, _, _, _, _, _⟩, _), ?_, [γ 0], rfl, rfl, HE.box rfl rfl HE.nil⟩
  show _ ≤ p0 + 100
  omega
 try simp at hc2
 refine x7x x9x (by rfl) ?_
 refine z0z rfl rfl rfl ?_
 refine x2x rfl ?_
 refine y1y rfl (fun hc9 => ?_) (fun hc9 => ?_)
 ·try simp at hc9
  refine c7k fun B X0 w0 => ?_
  refine a2p x9x (by rfl) 1 rfl rfl ?_
  refine x0x rfl ?_
  refine a5k [0] [_] (a9e bs hbs (p0 + 1 + 1 + 1 + 1 + 1 + 1 + 1 + 1) 4 (by omega) (by omega)) rfl rfl rfl rfl rfl (by decide) rfl rfl (by repeat (first | exact InH.nil | refine InH.cons rfl ?_)) (fun _ => (by rfl)) (fun _ => (by (simp only [pI, y2y, y3y, v4v, gl, nx, v2v, Nat.beq]; rfl))) fun es hes => ?_
  have hes1 : es.1.length ≤ 4 := hes.1
  have hes2 : es.2 ≤ p0 + 1 + 1 + 1 + 1 + 1 + 1 + 1 + 1 + 1 + 13 * 4 := hes.2
  refine a2p x9x (by rfl) 3 rfl rfl ?_
  refine z7z rfl rfl rfl (a9h true es.1 (by omega)) ?_
  refine x1x rfl z5z rfl rfl w2w rfl rfl ?_
  refine z8z rfl rfl w2w rfl rfl rfl rfl rfl (by simp only [a2b]; rfl) ?_
  refine b0u rfl ?_
  refine hK1 _ _ ?_
  clear hK1 K1
  refine x8x fun K10 hK10 => ?_
  (obtain ⟨q, hqe⟩ : ∃ q, q = es.2 := ⟨_, rfl⟩; rw [← hqe])
  have hq : q ≤ p0 + 80 := by omega
  try (refine p5p (b := p1p true [(pk bs (p0 + 1 + 1 + 1 + 1 + 1 + 1 + 1 + 1) 2 : Int), 1, 1]) 2 7 rfl rfl rfl (.ref rfl (Le.ow_map (f := a2m) [(pk bs (p0 + 1 + 1 + 1 + 1 + 1 + 1 + 1 + 1) 2 : Int), 1, 1] (fun _ => rfl) (fun _ => rfl)) .nil) rfl rfl rfl rfl ?_; refine p5p (b := p1p true [1, (pk bs (p0 + 1 + 1 + 1 + 1 + 1 + 1 + 1 + 1 + 1) 3 : Int), 1]) 2 8 rfl rfl rfl (.ref rfl (Le.ow_map (f := a2m) [1, (pk bs (p0 + 1 + 1 + 1 + 1 + 1 + 1 + 1 + 1 + 1) 3 : Int), 1] (fun _ => rfl) (fun _ => rfl)) .nil) rfl rfl rfl rfl ?_)
  refine x7x x9x (by rfl) ?_
  refine x0x rfl ?_
  refine z1z [0] [_] (y4y true bs (q) (20) (by have := hq; omega) hbs) rfl rfl rfl (by decide) rfl rfl (by repeat (first | exact InH.nil | refine InH.cons rfl ?_)) (by (simp only [pI, y2y, y3y, v4v, gl, nx, v2v, Nat.beq]; rfl)) (by (simp only [pI, y2y, y3y, v4v, gl, nx, v2v, Nat.beq]; rfl)) ?_
  refine y7y ?_
  refine x7x x9x (by rfl) ?_
  refine z0z rfl rfl rfl ?_
  refine x2x rfl ?_
  refine y1y rfl (fun hc11 => ?_) (fun hc11 => ?_)
  ·try simp at hc11
   refine y0y x9x (by rfl) ?_
   refine u0u (id := 6) u1u rfl y5y rfl rfl rfl rfl (.val rfl rfl (.val rfl rfl .nil)) rfl (u3u rfl) (u3u rfl) (u3u rfl) rfl rfl ?_
   refine x0x rfl ?_
   refine z1z [0] [_] (y4y true bs (q + 1) (2) (by have := hq; omega) hbs) rfl rfl rfl (by decide) rfl rfl (by repeat (first | exact InH.nil | refine InH.cons rfl ?_)) (by (simp only [pI, y2y, y3y, v4v, gl, nx, v2v, Nat.beq]; rfl)) (by (simp only [pI, y2y, y3y, v4v, gl, nx, v2v, Nat.beq]; rfl)) ?_
   obtain ⟨z, ez, hz⟩ : ∃ z, pk bs (q + 1) 2 = z ∧ z < 2 := ⟨_, rfl, a1n _ _ _ (by omega)⟩
   rw [ez]
   obtain ⟨v, hv⟩ : ∃ x, ([0, 8] : List Int)[z]? = some x := ⟨_, List.getElem?_eq_getElem hz⟩
   refine w6w (f := fun x : Int => [pI x]) (l := [0, 8]) (j := z) rfl rfl u1u rfl y5y rfl rfl hz ?_
   refine w8w (f := fun x : Int => [pI x]) (l := [0, 8]) rfl y5y rfl hv rfl ?_
   refine x1x rfl z5z rfl rfl y5y rfl rfl ?_
   refine z8z rfl rfl y5y rfl rfl rfl rfl rfl (by simp only [a2b]; rfl) ?_
   refine hK10 _ _ ?_
   clear hK10 K10
   try (refine p5p (b := p1p true [1, 2]) 2 7 rfl rfl rfl (.ref rfl (Le.ow_map (f := a2m) [1, 2] (fun _ => rfl) (fun _ => rfl)) .nil) rfl rfl rfl rfl ?_)
   refine x7x x9x (by rfl) ?_
   refine z3z rfl z5z rfl rfl rfl ?_
   refine u2u rfl rfl z5z rfl rfl rfl rfl ?_
   refine y6y ?_
   refine ⟨.inr rfl, (⟨_, _, _, _, _, _, _, _, _, _, _⟩, _), ?_, [γ 0], rfl, rfl, HE.box rfl rfl HE.nil⟩
   show _ ≤ p0 + 100
   omega
  try simp at hc11
  refine x7x x9x (by rfl) ?_
  refine z0z rfl rfl rfl ?_
  refine x2x rfl ?_
  refine y1y rfl (fun hc12 => ?_) (fun hc12 => ?_)
  ·try simp at hc12
   refine y0y x9x (by rfl) ?_
   refine u0u (id := 7) u1u rfl y5y rfl rfl rfl rfl (.val rfl rfl (.val rfl rfl .nil)) rfl (u3u rfl) (u3u rfl) (u3u rfl) rfl rfl ?_
   refine x0x rfl ?_
   refine z1z [0] [_] (y4y true bs (q + 1) (2) (by have := hq; omega) hbs) rfl rfl rfl (by decide) rfl rfl (by repeat (first | exact InH.nil | refine InH.cons rfl ?_)) (by (simp only [pI, y2y, y3y, v4v, gl, nx, v2v, Nat.beq]; rfl)) (by (simp only [pI, y2y, y3y, v4v, gl, nx, v2v, Nat.beq]; rfl)) ?_
   obtain ⟨z, ez, hz⟩ : ∃ z, pk bs (q + 1) 2 = z ∧ z < 2 := ⟨_, rfl, a1n _ _ _ (by omega)⟩
   rw [ez]
   obtain ⟨v, hv⟩ : ∃ x, ([-1, 3] : List Int)[z]? = some x := ⟨_, List.getElem?_eq_getElem hz⟩
   refine w6w (f := fun x : Int => [pI x]) (l := [-1, 3]) (j := z) rfl rfl u1u rfl y5y rfl rfl hz ?_
   refine w8w (f := fun x : Int => [pI x]) (l := [-1, 3]) rfl y5y rfl hv rfl ?_
   refine x1x rfl z5z rfl rfl y5y rfl rfl ?_
   refine z8z rfl rfl y5y rfl rfl rfl rfl rfl (by simp only [a2b]; rfl) ?_
   refine hK10 _ _ ?_
   clear hK10 K10
   try (refine p5p (b := p1p true [1, 2]) 2 7 rfl rfl rfl (.ref rfl (Le.ow_map (f := a2m) [1, 2] (fun _ => rfl) (fun _ => rfl)) .nil) rfl rfl rfl rfl ?_)
   refine x7x x9x (by rfl) ?_
   refine z3z rfl z5z rfl rfl rfl ?_
   refine u2u rfl rfl z5z rfl rfl rfl rfl ?_
   refine y6y ?_
   refine ⟨.inr rfl, (⟨_, _, _, _, _, _, _, _, _, _, _⟩, _), ?_, [γ 0], rfl, rfl, HE.box rfl rfl HE.nil⟩
   show _ ≤ p0 + 100
   omega
  try simp at hc12
  refine x7x x9x (by rfl) ?_
  refine z0z rfl rfl rfl ?_
  refine x2x rfl ?_
  refine y1y rfl (fun hc13 => ?_) (fun hc13 => ?_)
  ·try simp at hc13
   refine y0y x9x (by rfl) ?_
   refine u0u (id := 8) u1u rfl y5y rfl rfl rfl rfl (.val rfl rfl (.val rfl rfl (.val rfl rfl .nil))) rfl (u3u rfl) (u3u rfl) (u3u rfl) rfl rfl ?_
   refine x0x rfl ?_
   refine z1z [0] [_] (y4y true bs (q + 1) (3) (by have := hq; omega) hbs) rfl rfl rfl (by decide) rfl rfl (by repeat (first | exact InH.nil | refine InH.cons rfl ?_)) (by (simp only [pI, y2y, y3y, v4v, gl, nx, v2v, Nat.beq]; rfl)) (by (simp only [pI, y2y, y3y, v4v, gl, nx, v2v, Nat.beq]; rfl)) ?_
   obtain ⟨z, ez, hz⟩ : ∃ z, pk bs (q + 1) 3 = z ∧ z < 3 := ⟨_, rfl, a1n _ _ _ (by omega)⟩
   rw [ez]
   obtain ⟨v, hv⟩ : ∃ x, ([-1, 41, 42] : List Int)[z]? = some x := ⟨_, List.getElem?_eq_getElem hz⟩
   refine w6w (f := fun x : Int => [pI x]) (l := [-1, 41, 42]) (j := z) rfl rfl u1u rfl y5y rfl rfl hz ?_
   refine w8w (f := fun x : Int => [pI x]) (l := [-1, 41, 42]) rfl y5y rfl hv rfl ?_
   refine x1x rfl z5z rfl rfl y5y rfl rfl ?_
   refine z8z rfl rfl y5y rfl rfl rfl rfl rfl (by simp only [a2b]; rfl) ?_
   refine hK10 _ _ ?_
   clear hK10 K10
   try (refine p5p (b := p1p true [1, 2]) 2 7 rfl rfl rfl (.ref rfl (Le.ow_map (f := a2m) [1, 2] (fun _ => rfl) (fun _ => rfl)) .nil) rfl rfl rfl rfl ?_)
   refine x7x x9x (by rfl) ?_
   refine z3z rfl z5z rfl rfl rfl ?_
   refine u2u rfl rfl z5z rfl rfl rfl rfl ?_
   refine y6y ?_
   refine ⟨.inr rfl, (⟨_, _, _, _, _, _, _, _, _, _, _⟩, _), ?_, [γ 0], rfl, rfl, HE.box rfl rfl HE.nil⟩
   show _ ≤ p0 + 100
   omega
  try simp at hc13
  refine x7x x9x (by rfl) ?_
  refine z0z rfl rfl rfl ?_
  refine x2x rfl ?_
  refine y1y rfl (fun hc14 => ?_) (fun hc14 => ?_)
  ·try simp at hc14
   refine y0y x9x (by rfl) ?_
   refine u0u (id := 9) u1u rfl y5y rfl rfl rfl rfl (.val rfl rfl (.val rfl rfl .nil)) rfl (u3u rfl) (u3u rfl) (u3u rfl) rfl rfl ?_
   refine x1x rfl z5z rfl rfl u1u rfl rfl ?_
   refine z8z rfl rfl u1u rfl rfl rfl rfl rfl (by simp only [a2b]; rfl) ?_
   refine hK10 _ _ ?_
   clear hK10 K10
   try (refine p5p (b := p1p true [1, 2]) 2 7 rfl rfl rfl (.ref rfl (Le.ow_map (f := a2m) [1, 2] (fun _ => rfl) (fun _ => rfl)) .nil) rfl rfl rfl rfl ?_)
   refine x7x x9x (by rfl) ?_
   refine z3z rfl z5z rfl rfl rfl ?_
   refine u2u rfl rfl z5z rfl rfl rfl rfl ?_
   refine y6y ?_
   refine ⟨.inr rfl, (⟨_, _, _, _, _, _, _, _, _, _, _⟩, _), ?_, [γ 0], rfl, rfl, HE.box rfl rfl HE.nil⟩
   show _ ≤ p0 + 100
   omega
  try simp at hc14
  refine x7x x9x (by rfl) ?_
  refine z0z rfl rfl rfl ?_
  refine x2x rfl ?_
  refine y1y rfl (fun hc15 => ?_) (fun hc15 => ?_)
  rotate_left
  ·try simp at hc15
   refine y8y ?_
   refine hK10 _ _ ?_
   clear hK10 K10
   try (refine p5p (b := p1p true [1, 2]) 2 7 rfl rfl rfl (.ref rfl (Le.ow_map (f := a2m) [1, 2] (fun _ => rfl) (fun _ => rfl)) .nil) rfl rfl rfl rfl ?_)
   refine x7x x9x (by rfl) ?_
   refine z3z rfl z5z rfl rfl rfl ?_
   refine u2u rfl rfl z5z rfl rfl rfl rfl ?_
   refine y6y ?_
   refine ⟨.inr rfl, (⟨_, _, _, _, _, _, _, _, _, _, _⟩, _), ?_, [γ 0], rfl, rfl, HE.box rfl rfl HE.nil⟩
   show _ ≤ p0 + 100
   omega
  try simp at hc15
  refine y0y x9x (by rfl) ?_
  refine z7z rfl rfl rfl (q1q ..) ?_
  refine z7z rfl rfl rfl (q1q ..) ?_
  refine u5u (.int .i64 10000) rfl rfl rfl rfl ?_
  refine u0u (id := 10) u1u rfl y5y rfl rfl rfl rfl (.val rfl rfl (.val rfl rfl (.val rfl rfl .nil))) rfl (u3u rfl) (u3u rfl) (u3u rfl) rfl rfl ?_
  refine x0x rfl ?_
  refine z1z [0] [_] (y4y true bs (q + 1) (3) (by have := hq; omega) hbs) rfl rfl rfl (by decide) rfl rfl (by repeat (first | exact InH.nil | refine InH.cons rfl ?_)) (by (simp only [pI, y2y, y3y, v4v, gl, nx, v2v, Nat.beq]; rfl)) (by (simp only [pI, y2y, y3y, v4v, gl, nx, v2v, Nat.beq]; rfl)) ?_
  obtain ⟨z, ez, hz⟩ : ∃ z, pk bs (q + 1) 3 = z ∧ z < 3 := ⟨_, rfl, a1n _ _ _ (by omega)⟩
  rw [ez]
  obtain ⟨v, hv⟩ : ∃ x, ([-1, 9999, 10000] : List Int)[z]? = some x := ⟨_, List.getElem?_eq_getElem hz⟩
  refine w6w (f := fun x : Int => [pI x]) (l := [-1, 9999, 10000]) (j := z) rfl rfl u1u rfl y5y rfl rfl hz ?_
  refine w8w (f := fun x : Int => [pI x]) (l := [-1, 9999, 10000]) rfl y5y rfl hv rfl ?_
  refine x1x rfl z5z rfl rfl y5y rfl rfl ?_
  refine z8z rfl rfl y5y rfl rfl rfl rfl rfl (by simp only [a2b]; rfl) ?_
  refine hK10 _ _ ?_
  clear hK10 K10
  try (refine p5p (b := p1p true [1, 2]) 2 7 rfl rfl rfl (.ref rfl (Le.ow_map (f := a2m) [1, 2] (fun _ => rfl) (fun _ => rfl)) .nil) rfl rfl rfl rfl ?_)
  refine x7x x9x (by rfl) ?_
  refine z3z rfl z5z rfl rfl rfl ?_
  refine u2u rfl rfl z5z rfl rfl rfl rfl ?_
  refine y6y ?_
  refine ⟨.inr rfl, (⟨_, _, _, _, _, _, _, _, _, _, _⟩, _), ?_, [γ 0], rfl, rfl, HE.box rfl rfl HE.nil⟩
  show _ ≤ p0 + 100
  omega
 try simp at hc9
 refine x7x x9x (by rfl) ?_
 refine z0z rfl rfl rfl ?_
 refine x2x rfl ?_
 refine y1y rfl (fun hc16 => ?_) (fun hc16 => ?_)
 rotate_left
 ·try simp at hc16
  refine y8y ?_
  refine hK1 _ _ ?_
  clear hK1 K1
  refine x8x fun K23 hK23 => ?_
  (obtain ⟨q, hqe⟩ : ∃ q, q = p0 + 1 + 1 + 1 + 1 + 1 + 1 + 1 + 1 := ⟨_, rfl⟩; rw [← hqe])
  have hq : q ≤ p0 + 80 := by omega
  try (refine p5p (b := p1p true [(pk bs (p0 + 1 + 1 + 1 + 1 + 1 + 1 + 1 + 1) 2 : Int), 1, 1]) 2 7 rfl rfl rfl (.ref rfl (Le.ow_map (f := a2m) [(pk bs (p0 + 1 + 1 + 1 + 1 + 1 + 1 + 1 + 1) 2 : Int), 1, 1] (fun _ => rfl) (fun _ => rfl)) .nil) rfl rfl rfl rfl ?_; refine p5p (b := p1p true [1, (pk bs (p0 + 1 + 1 + 1 + 1 + 1 + 1 + 1 + 1 + 1) 3 : Int), 1]) 2 8 rfl rfl rfl (.ref rfl (Le.ow_map (f := a2m) [1, (pk bs (p0 + 1 + 1 + 1 + 1 + 1 + 1 + 1 + 1 + 1) 3 : Int), 1] (fun _ => rfl) (fun _ => rfl)) .nil) rfl rfl rfl rfl ?_)
  refine x7x x9x (by rfl) ?_
  refine x0x rfl ?_
  refine z1z [0] [_] (y4y true bs (q) (20) (by have := hq; omega) hbs) rfl rfl rfl (by decide) rfl rfl (by repeat (first | exact InH.nil | refine InH.cons rfl ?_)) (by (simp only [pI, y2y, y3y, v4v, gl, nx, v2v, Nat.beq]; rfl)) (by (simp only [pI, y2y, y3y, v4v, gl, nx, v2v, Nat.beq]; rfl)) ?_
  refine y7y ?_
  refine x7x x9x (by rfl) ?_
  refine z0z rfl rfl rfl ?_
  refine x2x rfl ?_
  refine y1y rfl (fun hc24 => ?_) (fun hc24 => ?_)
  ·try simp at hc24
   refine y0y x9x (by rfl) ?_
   refine u0u (id := 6) u1u rfl y5y rfl rfl rfl rfl (.val rfl rfl (.val rfl rfl .nil)) rfl (u3u rfl) (u3u rfl) (u3u rfl) rfl rfl ?_
   refine x0x rfl ?_
   refine z1z [0] [_] (y4y true bs (q + 1) (2) (by have := hq; omega) hbs) rfl rfl rfl (by decide) rfl rfl (by repeat (first | exact InH.nil | refine InH.cons rfl ?_)) (by (simp only [pI, y2y, y3y, v4v, gl, nx, v2v, Nat.beq]; rfl)) (by (simp only [pI, y2y, y3y, v4v, gl, nx, v2v, Nat.beq]; rfl)) ?_
   obtain ⟨z, ez, hz⟩ : ∃ z, pk bs (q + 1) 2 = z ∧ z < 2 := ⟨_, rfl, a1n _ _ _ (by omega)⟩
   rw [ez]
   obtain ⟨v, hv⟩ : ∃ x, ([0, 8] : List Int)[z]? = some x := ⟨_, List.getElem?_eq_getElem hz⟩
   refine w6w (f := fun x : Int => [pI x]) (l := [0, 8]) (j := z) rfl rfl u1u rfl y5y rfl rfl hz ?_
   refine w8w (f := fun x : Int => [pI x]) (l := [0, 8]) rfl y5y rfl hv rfl ?_
   refine x1x rfl z5z rfl rfl y5y rfl rfl ?_
   refine z8z rfl rfl y5y rfl rfl rfl rfl rfl (by simp only [a2b]; rfl) ?_
   refine hK23 _ _ ?_
   clear hK23 K23
   try (refine p5p (b := p1p true [1, 2]) 2 7 rfl rfl rfl (.ref rfl (Le.ow_map (f := a2m) [1, 2] (fun _ => rfl) (fun _ => rfl)) .nil) rfl rfl rfl rfl ?_)
   refine x7x x9x (by rfl) ?_
   refine z3z rfl z5z rfl rfl rfl ?_
   refine u2u rfl rfl z5z rfl rfl rfl rfl ?_
   refine y6y ?_
   refine ⟨.inr rfl, (⟨_, _, _, _, _, _, _, _, _, _, _⟩, _), ?_, [γ 0], rfl, rfl, HE.box rfl rfl HE.nil⟩
   show _ ≤ p0 + 100
   omega
  try simp at hc24
  refine x7x x9x (by rfl) ?_
  refine z0z rfl rfl rfl ?_
  refine x2x rfl ?_
  refine y1y rfl (fun hc25 => ?_) (fun hc25 => ?_)
  ·try simp at hc25
   refine y0y x9x (by rfl) ?_
   refine u0u (id := 7) u1u rfl y5y rfl rfl rfl rfl (.val rfl rfl (.val rfl rfl .nil)) rfl (u3u rfl) (u3u rfl) (u3u rfl) rfl rfl ?_
   refine x0x rfl ?_
   refine z1z [0] [_] (y4y true bs (q + 1) (2) (by have := hq; omega) hbs) rfl rfl rfl (by decide) rfl rfl (by repeat (first | exact InH.nil | refine InH.cons rfl ?_)) (by (simp only [pI, y2y, y3y, v4v, gl, nx, v2v, Nat.beq]; rfl)) (by (simp only [pI, y2y, y3y, v4v, gl, nx, v2v, Nat.beq]; rfl)) ?_
   obtain ⟨z, ez, hz⟩ : ∃ z, pk bs (q + 1) 2 = z ∧ z < 2 := ⟨_, rfl, a1n _ _ _ (by omega)⟩
   rw [ez]
   obtain ⟨v, hv⟩ : ∃ x, ([-1, 3] : List Int)[z]? = some x := ⟨_, List.getElem?_eq_getElem hz⟩
   refine w6w (f := fun x : Int => [pI x]) (l := [-1, 3]) (j := z) rfl rfl u1u rfl y5y rfl rfl hz ?_
   refine w8w (f := fun x : Int => [pI x]) (l := [-1, 3]) rfl y5y rfl hv rfl ?_
   refine x1x rfl z5z rfl rfl y5y rfl rfl ?_
   refine z8z rfl rfl y5y rfl rfl rfl rfl rfl (by simp only [a2b]; rfl) ?_
   refine hK23 _ _ ?_
   clear hK23 K23
   try (refine p5p (b := p1p true [1, 2]) 2 7 rfl rfl rfl (.ref rfl (Le.ow_map (f := a2m) [1, 2] (fun _ => rfl) (fun _ => rfl)) .nil) rfl rfl rfl rfl ?_)
   refine x7x x9x (by rfl) ?_
   refine z3z rfl z5z rfl rfl rfl ?_
   refine u2u rfl rfl z5z rfl rfl rfl rfl ?_
   refine y6y ?_
   refine ⟨.inr rfl, (⟨_, _, _, _, _, _, _, _, _, _, _⟩, _), ?_, [γ 0], rfl, rfl, HE.box rfl rfl HE.nil⟩
   show _ ≤ p0 + 100
   omega
  try simp at hc25
  refine x7x x9x (by rfl) ?_
  refine z0z rfl rfl rfl ?_
  refine x2x rfl ?_
  refine y1y rfl (fun hc26 => ?_) (fun hc26 => ?_)
  ·try simp at hc26
   refine y0y x9x (by rfl) ?_
   refine u0u (id := 8) u1u rfl y5y rfl rfl rfl rfl (.val rfl rfl (.val rfl rfl (.val rfl rfl .nil))) rfl (u3u rfl) (u3u rfl) (u3u rfl) rfl rfl ?_
   refine x0x rfl ?_
   refine z1z [0] [_] (y4y true bs (q + 1) (3) (by have := hq; omega) hbs) rfl rfl rfl (by decide) rfl rfl (by repeat (first | exact InH.nil | refine InH.cons rfl ?_)) (by (simp only [pI, y2y, y3y, v4v, gl, nx, v2v, Nat.beq]; rfl)) (by (simp only [pI, y2y, y3y, v4v, gl, nx, v2v, Nat.beq]; rfl)) ?_
   obtain ⟨z, ez, hz⟩ : ∃ z, pk bs (q + 1) 3 = z ∧ z < 3 := ⟨_, rfl, a1n _ _ _ (by omega)⟩
   rw [ez]
   obtain ⟨v, hv⟩ : ∃ x, ([-1, 41, 42] : List Int)[z]? = some x := ⟨_, List.getElem?_eq_getElem hz⟩
   refine w6w (f := fun x : Int => [pI x]) (l := [-1, 41, 42]) (j := z) rfl rfl u1u rfl y5y rfl rfl hz ?_
   refine w8w (f := fun x : Int => [pI x]) (l := [-1, 41, 42]) rfl y5y rfl hv rfl ?_
   refine x1x rfl z5z rfl rfl y5y rfl rfl ?_
   refine z8z rfl rfl y5y rfl rfl rfl rfl rfl (by simp only [a2b]; rfl) ?_
   refine hK23 _ _ ?_
   clear hK23 K23
   try (refine p5p (b := p1p true [1, 2]) 2 7 rfl rfl rfl (.ref rfl (Le.ow_map (f := a2m) [1, 2] (fun _ => rfl) (fun _ => rfl)) .nil) rfl rfl rfl rfl ?_)
   refine x7x x9x (by rfl) ?_
   refine z3z rfl z5z rfl rfl rfl ?_
   refine u2u rfl rfl z5z rfl rfl rfl rfl ?_
   refine y6y ?_
   refine ⟨.inr rfl, (⟨_, _, _, _, _, _, _, _, _, _, _⟩, _), ?_, [γ 0], rfl, rfl, HE.box rfl rfl HE.nil⟩
   show _ ≤ p0 + 100
   omega
  try simp at hc26
  refine x7x x9x (by rfl) ?_
  refine z0z rfl rfl rfl ?_
  refine x2x rfl ?_
  refine y1y rfl (fun hc27 => ?_) (fun hc27 => ?_)
  ·try simp at hc27
   refine y0y x9x (by rfl) ?_
   refine u0u (id := 9) u1u rfl y5y rfl rfl rfl rfl (.val rfl rfl (.val rfl rfl .nil)) rfl (u3u rfl) (u3u rfl) (u3u rfl) rfl rfl ?_
   refine x1x rfl z5z rfl rfl u1u rfl rfl ?_
   refine z8z rfl rfl u1u rfl rfl rfl rfl rfl (by simp only [a2b]; rfl) ?_
   refine hK23 _ _ ?_
   clear hK23 K23
   try (refine p5p (b := p1p true [1, 2]) 2 7 rfl rfl rfl (.ref rfl (Le.ow_map (f := a2m) [1, 2] (fun _ => rfl) (fun _ => rfl)) .nil) rfl rfl rfl rfl ?_)
   refine x7x x9x (by rfl) ?_
   refine z3z rfl z5z rfl rfl rfl ?_
   refine u2u rfl rfl z5z rfl rfl rfl rfl ?_
   refine y6y ?_
   refine ⟨.inr rfl, (⟨_, _, _, _, _, _, _, _, _, _, _⟩, _), ?_, [γ 0], rfl, rfl, HE.box rfl rfl HE.nil⟩
   show _ ≤ p0 + 100
   omega
  try simp at hc27
  refine x7x x9x (by rfl) ?_
  refine z0z rfl rfl rfl ?_
  refine x2x rfl ?_
  refine y1y rfl (fun hc28 => ?_) (fun hc28 => ?_)
  rotate_left
  ·try simp at hc28
   refine y8y ?_
   refine hK23 _ _ ?_
   clear hK23 K23
   try (refine p5p (b := p1p true [1, 2]) 2 7 rfl rfl rfl (.ref rfl (Le.ow_map (f := a2m) [1, 2] (fun _ => rfl) (fun _ => rfl)) .nil) rfl rfl rfl rfl ?_)
   refine x7x x9x (by rfl) ?_
   refine z3z rfl z5z rfl rfl rfl ?_
   refine u2u rfl rfl z5z rfl rfl rfl rfl ?_
   refine y6y ?_
   refine ⟨.inr rfl, (⟨_, _, _, _, _, _, _, _, _, _, _⟩, _), ?_, [γ 0], rfl, rfl, HE.box rfl rfl HE.nil⟩
   show _ ≤ p0 + 100
   omega
  try simp at hc28
  refine y0y x9x (by rfl) ?_
  refine z7z rfl rfl rfl (q1q ..) ?_
  refine z7z rfl rfl rfl (q1q ..) ?_
  refine u5u (.int .i64 10000) rfl rfl rfl rfl ?_
  refine u0u (id := 10) u1u rfl y5y rfl rfl rfl rfl (.val rfl rfl (.val rfl rfl (.val rfl rfl .nil))) rfl (u3u rfl) (u3u rfl) (u3u rfl) rfl rfl ?_
  refine x0x rfl ?_
  refine z1z [0] [_] (y4y true bs (q + 1) (3) (by have := hq; omega) hbs) rfl rfl rfl (by decide) rfl rfl (by repeat (first | exact InH.nil | refine InH.cons rfl ?_)) (by (simp only [pI, y2y, y3y, v4v, gl, nx, v2v, Nat.beq]; rfl)) (by (simp only [pI, y2y, y3y, v4v, gl, nx, v2v, Nat.beq]; rfl)) ?_
  obtain ⟨z, ez, hz⟩ : ∃ z, pk bs (q + 1) 3 = z ∧ z < 3 := ⟨_, rfl, a1n _ _ _ (by omega)⟩
  rw [ez]
  obtain ⟨v, hv⟩ : ∃ x, ([-1, 9999, 10000] : List Int)[z]? = some x := ⟨_, List.getElem?_eq_getElem hz⟩
  refine w6w (f := fun x : Int => [pI x]) (l := [-1, 9999, 10000]) (j := z) rfl rfl u1u rfl y5y rfl rfl hz ?_
  refine w8w (f := fun x : Int => [pI x]) (l := [-1, 9999, 10000]) rfl y5y rfl hv rfl ?_
  refine x1x rfl z5z rfl rfl y5y rfl rfl ?_
  refine z8z rfl rfl y5y rfl rfl rfl rfl rfl (by simp only [a2b]; rfl) ?_
  refine hK23 _ _ ?_
  clear hK23 K23
  try (refine p5p (b := p1p true [1, 2]) 2 7 rfl rfl rfl (.ref rfl (Le.ow_map (f := a2m) [1, 2] (fun _ => rfl) (fun _ => rfl)) .nil) rfl rfl rfl rfl ?_)
  refine x7x x9x (by rfl) ?_
  refine z3z rfl z5z rfl rfl rfl ?_
  refine u2u rfl rfl z5z rfl rfl rfl rfl ?_
  refine y6y ?_
  refine ⟨.inr rfl, (⟨_, _, _, _, _, _, _, _, _, _, _⟩, _), ?_, [γ 0], rfl, rfl, HE.box rfl rfl HE.nil⟩
  show _ ≤ p0 + 100
  omega
 try simp at hc16
 refine c7k fun B X0 w0 => ?_
 refine a2p x9x (by rfl) 1 rfl rfl ?_
 refine x0x rfl ?_
 refine a5k [0] [_] (a7q bs hbs (p0 + 1 + 1 + 1 + 1 + 1 + 1 + 1 + 1) (by omega)) rfl rfl rfl rfl rfl (by decide) rfl rfl (by repeat (first | exact InH.nil | refine InH.cons rfl ?_)) (fun _ => (by (simp only [pI, y2y, y3y, v4v, gl, nx, v2v, Nat.beq]; rfl))) (fun _ => (by (simp only [pI, y2y, y3y, v4v, gl, nx, v2v, Nat.beq]; rfl))) fun oa hoa => ?_
 have hoa2 : oa.2 ≤ p0 + 1 + 1 + 1 + 1 + 1 + 1 + 1 + 1 + 5 := hoa
 refine a2p x9x (by rfl) 1 rfl rfl ?_
 refine x0x rfl ?_
 refine a5k [0] [_] (a7q bs hbs oa.2 (by omega)) rfl rfl rfl rfl rfl (by decide) rfl rfl (by repeat (first | exact InH.nil | refine InH.cons rfl ?_)) (fun _ => (by (simp only [pI, y2y, y3y, v4v, gl, nx, v2v, Nat.beq]; rfl))) (fun _ => (by (simp only [pI, y2y, y3y, v4v, gl, nx, v2v, Nat.beq]; rfl))) fun ob hob => ?_
 have hob2 : ob.2 ≤ oa.2 + 5 := hob
 refine a2p x9x (by rfl) 4 rfl rfl ?_
 refine u0u (id := 5) w5w rfl v8v rfl rfl rfl rfl (.val rfl rfl (.val rfl rfl (.val rfl rfl (.val rfl rfl (.val rfl rfl (.val rfl rfl (.val rfl rfl (.val rfl rfl (.val rfl rfl (.val rfl rfl .nil)))))))))) rfl (u3u rfl) (u3u rfl) (u3u rfl) rfl rfl ?_
 refine c5e rfl rfl rfl (by exact c5v (l := [oa.1, ob.1]) rfl .nil) (b1o false [oa.1, ob.1] (by simp)) (by exact c1g _) ?_
 refine x1x rfl z5z rfl rfl w5w rfl rfl ?_
 refine z8z rfl rfl w5w rfl rfl rfl rfl rfl (by simp only [a2b]; rfl) ?_
 refine b0u rfl ?_
 refine hK1 _ _ ?_
 clear hK1 K1
 refine x8x fun K17 hK17 => ?_
 (obtain ⟨q, hqe⟩ : ∃ q, q = ob.2 := ⟨_, rfl⟩; rw [← hqe])
 have hq : q ≤ p0 + 80 := by omega
 try (refine p5p (b := p1p true [(pk bs (p0 + 1 + 1 + 1 + 1 + 1 + 1 + 1 + 1) 2 : Int), 1, 1]) 2 7 rfl rfl rfl (.ref rfl (Le.ow_map (f := a2m) [(pk bs (p0 + 1 + 1 + 1 + 1 + 1 + 1 + 1 + 1) 2 : Int), 1, 1] (fun _ => rfl) (fun _ => rfl)) .nil) rfl rfl rfl rfl ?_; refine p5p (b := p1p true [1, (pk bs (p0 + 1 + 1 + 1 + 1 + 1 + 1 + 1 + 1 + 1) 3 : Int), 1]) 2 8 rfl rfl rfl (.ref rfl (Le.ow_map (f := a2m) [1, (pk bs (p0 + 1 + 1 + 1 + 1 + 1 + 1 + 1 + 1 + 1) 3 : Int), 1] (fun _ => rfl) (fun _ => rfl)) .nil) rfl rfl rfl rfl ?_)
 refine x7x x9x (by rfl) ?_
 refine x0x rfl ?_
 refine z1z [0] [_] (y4y true bs (q) (20) (by have := hq; omega) hbs) rfl rfl rfl (by decide) rfl rfl (by repeat (first | exact InH.nil | refine InH.cons rfl ?_)) (by (simp only [pI, y2y, y3y, v4v, gl, nx, v2v, Nat.beq]; rfl)) (by (simp only [pI, y2y, y3y, v4v, gl, nx, v2v, Nat.beq]; rfl)) ?_
 refine y7y ?_
 refine x7x x9x (by rfl) ?_
 refine z0z rfl rfl rfl ?_
 refine x2x rfl ?_
 refine y1y rfl (fun hc18 => ?_) (fun hc18 => ?_)
 ·try simp at hc18
  refine y0y x9x (by rfl) ?_
  refine u0u (id := 6) u1u rfl y5y rfl rfl rfl rfl (.val rfl rfl (.val rfl rfl .nil)) rfl (u3u rfl) (u3u rfl) (u3u rfl) rfl rfl ?_
  refine x0x rfl ?_
  refine z1z [0] [_] (y4y true bs (q + 1) (2) (by have := hq; omega) hbs) rfl rfl rfl (by decide) rfl rfl (by repeat (first | exact InH.nil | refine InH.cons rfl ?_)) (by (simp only [pI, y2y, y3y, v4v, gl, nx, v2v, Nat.beq]; rfl)) (by (simp only [pI, y2y, y3y, v4v, gl, nx, v2v, Nat.beq]; rfl)) ?_
  obtain ⟨z, ez, hz⟩ : ∃ z, pk bs (q + 1) 2 = z ∧ z < 2 := ⟨_, rfl, a1n _ _ _ (by omega)⟩
  rw [ez]
  obtain ⟨v, hv⟩ : ∃ x, ([0, 8] : List Int)[z]? = some x := ⟨_, List.getElem?_eq_getElem hz⟩
  refine w6w (f := fun x : Int => [pI x]) (l := [0, 8]) (j := z) rfl rfl u1u rfl y5y rfl rfl hz ?_
  refine w8w (f := fun x : Int => [pI x]) (l := [0, 8]) rfl y5y rfl hv rfl ?_
  refine x1x rfl z5z rfl rfl y5y rfl rfl ?_
  refine z8z rfl rfl y5y rfl rfl rfl rfl rfl (by simp only [a2b]; rfl) ?_
  refine hK17 _ _ ?_
  clear hK17 K17
  try (refine p5p (b := p1p true [1, 2]) 2 7 rfl rfl rfl (.ref rfl (Le.ow_map (f := a2m) [1, 2] (fun _ => rfl) (fun _ => rfl)) .nil) rfl rfl rfl rfl ?_)
  refine x7x x9x (by rfl) ?_
  refine z3z rfl z5z rfl rfl rfl ?_
  refine u2u rfl rfl z5z rfl rfl rfl rfl ?_
  refine y6y ?_
  refine ⟨.inr rfl, (⟨_, _, _, _, _, _, _, _, _, _, _⟩, _), ?_, [γ 0], rfl, rfl, HE.box rfl rfl HE.nil⟩
  show _ ≤ p0 + 100
  omega
 try simp at hc18
 refine x7x x9x (by rfl) ?_
 refine z0z rfl rfl rfl ?_
 refine x2x rfl ?_
 refine y1y rfl (fun hc19 => ?_) (fun hc19 => ?_)
 ·try simp at hc19
  refine y0y x9x (by rfl) ?_
  refine u0u (id := 7) u1u rfl y5y rfl rfl rfl rfl (.val rfl rfl (.val rfl rfl .nil)) rfl (u3u rfl) (u3u rfl) (u3u rfl) rfl rfl ?_
  refine x0x rfl ?_
  refine z1z [0] [_] (y4y true bs (q + 1) (2) (by have := hq; omega) hbs) rfl rfl rfl (by decide) rfl rfl (by repeat (first | exact InH.nil | refine InH.cons rfl ?_)) (by (simp only [pI, y2y, y3y, v4v, gl, nx, v2v, Nat.beq]; rfl)) (by (simp only [pI, y2y, y3y, v4v, gl, nx, v2v, Nat.beq]; rfl)) ?_
  obtain ⟨z, ez, hz⟩ : ∃ z, pk bs (q + 1) 2 = z ∧ z < 2 := ⟨_, rfl, a1n _ _ _ (by omega)⟩
  rw [ez]
  obtain ⟨v, hv⟩ : ∃ x, ([-1, 3] : List Int)[z]? = some x := ⟨_, List.getElem?_eq_getElem hz⟩
  refine w6w (f := fun x : Int => [pI x]) (l := [-1, 3]) (j := z) rfl rfl u1u rfl y5y rfl rfl hz ?_
  refine w8w (f := fun x : Int => [pI x]) (l := [-1, 3]) rfl y5y rfl hv rfl ?_
  refine x1x rfl z5z rfl rfl y5y rfl rfl ?_
  refine z8z rfl rfl y5y rfl rfl rfl rfl rfl (by simp only [a2b]; rfl) ?_
  refine hK17 _ _ ?_
  clear hK17 K17
  try (refine p5p (b := p1p true [1, 2]) 2 7 rfl rfl rfl (.ref rfl (Le.ow_map (f := a2m) [1, 2] (fun _ => rfl) (fun _ => rfl)) .nil) rfl rfl rfl rfl ?_)
  refine x7x x9x (by rfl) ?_
  refine z3z rfl z5z rfl rfl rfl ?_
  refine u2u rfl rfl z5z rfl rfl rfl rfl ?_
  refine y6y ?_
  refine ⟨.inr rfl, (⟨_, _, _, _, _, _, _, _, _, _, _⟩, _), ?_, [γ 0], rfl, rfl, HE.box rfl rfl HE.nil⟩
  show _ ≤ p0 + 100
  omega
 try simp at hc19
 refine x7x x9x (by rfl) ?_
 refine z0z rfl rfl rfl ?_
 refine x2x rfl ?_
 refine y1y rfl (fun hc20 => ?_) (fun hc20 => ?_)
 ·try simp at hc20
  refine y0y x9x (by rfl) ?_
  refine u0u (id := 8) u1u rfl y5y rfl rfl rfl rfl (.val rfl rfl (.val rfl rfl (.val rfl rfl .nil))) rfl (u3u rfl) (u3u rfl) (u3u rfl) rfl rfl ?_
  refine x0x rfl ?_
  refine z1z [0] [_] (y4y true bs (q + 1) (3) (by have := hq; omega) hbs) rfl rfl rfl (by decide) rfl rfl (by repeat (first | exact InH.nil | refine InH.cons rfl ?_)) (by (simp only [pI, y2y, y3y, v4v, gl, nx, v2v, Nat.beq]; rfl)) (by (simp only [pI, y2y, y3y, v4v, gl, nx, v2v, Nat.beq]; rfl)) ?_
  obtain ⟨z, ez, hz⟩ : ∃ z, pk bs (q + 1) 3 = z ∧ z < 3 := ⟨_, rfl, a1n _ _ _ (by omega)⟩
  rw [ez]
  obtain ⟨v, hv⟩ : ∃ x, ([-1, 41, 42] : List Int)[z]? = some x := ⟨_, List.getElem?_eq_getElem hz⟩
  refine w6w (f := fun x : Int => [pI x]) (l := [-1, 41, 42]) (j := z) rfl rfl u1u rfl y5y rfl rfl hz ?_
  refine w8w (f := fun x : Int => [pI x]) (l := [-1, 41, 42]) rfl y5y rfl hv rfl ?_
  refine x1x rfl z5z rfl rfl y5y rfl rfl ?_
  refine z8z rfl rfl y5y rfl rfl rfl rfl rfl (by simp only [a2b]; rfl) ?_
  refine hK17 _ _ ?_
  clear hK17 K17
  try (refine p5p (b := p1p true [1, 2]) 2 7 rfl rfl rfl (.ref rfl (Le.ow_map (f := a2m) [1, 2] (fun _ => rfl) (fun _ => rfl)) .nil) rfl rfl rfl rfl ?_)
  refine x7x x9x (by rfl) ?_
  refine z3z rfl z5z rfl rfl rfl ?_
  refine u2u rfl rfl z5z rfl rfl rfl rfl ?_
  refine y6y ?_
  refine ⟨.inr rfl, (⟨_, _, _, _, _, _, _, _, _, _, _⟩, _), ?_, [γ 0], rfl, rfl, HE.box rfl rfl HE.nil⟩
  show _ ≤ p0 + 100
  omega
 try simp at hc20
 refine x7x x9x (by rfl) ?_
 refine z0z rfl rfl rfl ?_
 refine x2x rfl ?_
 refine y1y rfl (fun hc21 => ?_) (fun hc21 => ?_)
 ·try simp at hc21
  refine y0y x9x (by rfl) ?_
  refine u0u (id := 9) u1u rfl y5y rfl rfl rfl rfl (.val rfl rfl (.val rfl rfl .nil)) rfl (u3u rfl) (u3u rfl) (u3u rfl) rfl rfl ?_
  refine x1x rfl z5z rfl rfl u1u rfl rfl ?_
  refine z8z rfl rfl u1u rfl rfl rfl rfl rfl (by simp only [a2b]; rfl) ?_
  refine hK17 _ _ ?_
  clear hK17 K17
  try (refine p5p (b := p1p true [1, 2]) 2 7 rfl rfl rfl (.ref rfl (Le.ow_map (f := a2m) [1, 2] (fun _ => rfl) (fun _ => rfl)) .nil) rfl rfl rfl rfl ?_)
  refine x7x x9x (by rfl) ?_
  refine z3z rfl z5z rfl rfl rfl ?_
  refine u2u rfl rfl z5z rfl rfl rfl rfl ?_
  refine y6y ?_
  refine ⟨.inr rfl, (⟨_, _, _, _, _, _, _, _, _, _, _⟩, _), ?_, [γ 0], rfl, rfl, HE.box rfl rfl HE.nil⟩
  show _ ≤ p0 + 100
  omega
 try simp at hc21
 refine x7x x9x (by rfl) ?_
 refine z0z rfl rfl rfl ?_
 refine x2x rfl ?_
 refine y1y rfl (fun hc22 => ?_) (fun hc22 => ?_)
 rotate_left
 ·try simp at hc22
  refine y8y ?_
  refine hK17 _ _ ?_
  clear hK17 K17
  try (refine p5p (b := p1p true [1, 2]) 2 7 rfl rfl rfl (.ref rfl (Le.ow_map (f := a2m) [1, 2] (fun _ => rfl) (fun _ => rfl)) .nil) rfl rfl rfl rfl ?_)
  refine x7x x9x (by rfl) ?_
  refine z3z rfl z5z rfl rfl rfl ?_
  refine u2u rfl rfl z5z rfl rfl rfl rfl ?_
  refine y6y ?_
  refine ⟨.inr rfl, (⟨_, _, _, _, _, _, _, _, _, _, _⟩, _), ?_, [γ 0], rfl, rfl, HE.box rfl rfl HE.nil⟩
  show _ ≤ p0 + 100
  omega
 try simp at hc22
 refine y0y x9x (by rfl) ?_
 refine z7z rfl rfl rfl (q1q ..) ?_
 refine z7z rfl rfl rfl (q1q ..) ?_
 refine u5u (.int .i64 10000) rfl rfl rfl rfl ?_
 refine u0u (id := 10) u1u rfl y5y rfl rfl rfl rfl (.val rfl rfl (.val rfl rfl (.val rfl rfl .nil))) rfl (u3u rfl) (u3u rfl) (u3u rfl) rfl rfl ?_
 refine x0x rfl ?_
 refine z1z [0] [_] (y4y true bs (q + 1) (3) (by have := hq; omega) hbs) rfl rfl rfl (by decide) rfl rfl (by repeat (first | exact InH.nil | refine InH.cons rfl ?_)) (by (simp only [pI, y2y, y3y, v4v, gl, nx, v2v, Nat.beq]; rfl)) (by (simp only [pI, y2y, y3y, v4v, gl, nx, v2v, Nat.beq]; rfl)) ?_
 obtain ⟨z, ez, hz⟩ : ∃ z, pk bs (q + 1) 3 = z ∧ z < 3 := ⟨_, rfl, a1n _ _ _ (by omega)⟩
 rw [ez]
 obtain ⟨v, hv⟩ : ∃ x, ([-1, 9999, 10000] : List Int)[z]? = some x := ⟨_, List.getElem?_eq_getElem hz⟩
 refine w6w (f := fun x : Int => [pI x]) (l := [-1, 9999, 10000]) (j := z) rfl rfl u1u rfl y5y rfl rfl hz ?_
 refine w8w (f := fun x : Int => [pI x]) (l := [-1, 9999, 10000]) rfl y5y rfl hv rfl ?_
 refine x1x rfl z5z rfl rfl y5y rfl rfl ?_
 refine z8z rfl rfl y5y rfl rfl rfl rfl rfl (by simp only [a2b]; rfl) ?_
 refine hK17 _ _ ?_
 clear hK17 K17
 try (refine p5p (b := p1p true [1, 2]) 2 7 rfl rfl rfl (.ref rfl (Le.ow_map (f := a2m) [1, 2] (fun _ => rfl) (fun _ => rfl)) .nil) rfl rfl rfl rfl ?_)
 refine x7x x9x (by rfl) ?_
 refine z3z rfl z5z rfl rfl rfl ?_
 refine u2u rfl rfl z5z rfl rfl rfl rfl ?_
 refine y6y ?_
 refine ⟨.inr rfl, (⟨_, _, _, _, _, _, _, _, _, _, _⟩, _), ?_, [γ 0], rfl, rfl, HE.box rfl rfl HE.nil⟩
 show _ ≤ p0 + 100
 omega
end
section
theorem b3w  : a2g Try.prog 77 [] (.pv (.int .i64 100)) := by
 refine u9u x9x (fn := Try.f77) (by kernel_rfl) (by kernel_rfl) rfl (outs := [.pv (.int .i64 100)]) (by rfl) (u3u rfl) 0 ?_
 refine x7x x9x (by rfl) ?_
 refine x2x rfl ?_
 refine x7x x9x (by rfl) ?_
 refine x2x rfl ?_
 refine y6y ⟨.inr rfl, ?_⟩
 exact z9z rfl rfl rfl
end
section
theorem a6b (c : Bool) (l : List Int) : a2g Try.prog 75 [p1p c l] (.pv (.bool (decide (a3z l)))) := by
 refine u9u x9x (fn := Try.f75) (by kernel_rfl) (by kernel_rfl) rfl (outs := [.pv (.bool (decide (a3z l)))]) (by rfl) (u3u rfl) 0 ?_
 refine s1s 0 rfl fun hlen => ?_
 refine x7x x9x (by rfl) ?_
 refine x2x rfl ?_
 refine x8x fun K1 hK1 => ?_
 refine x7x x9x (by rfl) ?_
 refine x0x rfl ?_
 refine v3v rfl u1u rfl ?_
 refine z0z rfl rfl rfl ?_
 refine x0x rfl ?_
 refine a0d rfl rfl (fun hg2 => ?_) (fun hg2 => ?_)
 rotate_left
 ·try simp at hg2
  refine x4x rfl rfl ?_
  refine x4x rfl rfl ?_
  refine x6x rfl rfl ?_
  refine y1y rfl (fun hc9 => ?_) (fun hc9 => ?_)
  ·simp at hc9
  try simp at hc9
  have hL : l.length = 0 ∨ l.length = 3 := by (simp_all; done)
  refine y8y ?_
  refine hK1 _ _ ?_
  clear hK1 K1
  refine x8x fun K10 hK10 => ?_
  refine x7x x9x (by rfl) ?_
  refine x2x rfl ?_
  refine y7y ?_
  refine v9v (ι := Nat) (fun i γ2 => [(3, .pv (.int .i64 (i : Int)))]) (fun i γ2 => []) (fun i => i ≤ l.length ∧ c5p l (fun _ v => 0 ≤ v ∧ v ≤ 9999) i) (fun i => l.length - i) (x5x 0 rfl Cov.nil) HE.nil 0 ⟨by omega, b0r⟩ [] (x5x 3 rfl Cov.nil) HE.nil rfl fun i γ2 hi => ?_
  try dsimp only [List.cons_append, List.nil_append]
  obtain ⟨h1, h2⟩ := hi
  refine x8x fun K11 hK11 => ?_
  refine x7x x9x (by rfl) ?_
  refine x0x rfl ?_
  refine x0x rfl ?_
  refine v3v rfl u1u rfl ?_
  refine z0z rfl rfl rfl ?_
  refine y1y rfl (fun hc12 => ?_) (fun hc12 => ?_)
  rotate_left
  ·try simp at hc12
   have hall := b3j h2 (by omega)
   refine v7v ?_
   refine hK10 _ _ ?_
   clear hK11 K11 hK10 K10
   refine x7x x9x (by rfl) ?_
   refine x2x rfl ?_
   refine y6y ⟨.inr rfl, ?_⟩
   refine z9z rfl ?_ rfl
   exact kT ⟨hL, fun v hv => by obtain ⟨i, hi⟩ := List.getElem?_of_mem hv; exact hall i v hi⟩
  try simp at hc12
  obtain ⟨v, hv⟩ : ∃ v, l[i]? = some v := s8s (by omega)
  refine y8y ?_
  refine hK11 _ _ ?_
  clear hK11 K11
  refine x8x fun K13 hK13 => ?_
  refine y7y ?_
  refine q5q x9x s7s (by rfl) ?_
  refine x0x rfl ?_
  refine x0x rfl ?_
  refine v0v rfl rfl u1u rfl y5y rfl hv ?_
  refine z6z rfl y5y rfl ?_
  refine z7z rfl rfl rfl (q1q ..) ?_
  refine z7z rfl rfl rfl (p4p ..) ?_
  refine s6s rfl ?_
  refine ⟨by kernel_rfl, ?_⟩
  refine y1y rfl (fun hc14 => ?_) (fun hc14 => ?_)
  rotate_left
  ·try simp at hc14
   have hb : 0 ≤ v ∧ v ≤ 9999 := by omega
   refine y8y ?_
   refine hK13 _ _ ?_
   clear hK13 K13
   refine y0y x9x (by rfl) ?_
   refine x0x rfl ?_
   refine r0r (b := 1) rfl rfl (by omega) ?_
   refine x2x rfl ?_
   exact ⟨i + 1, ⟨⟨by omega, b0s h2 hv hb⟩, by omega⟩, [], (x5x 3 rfl Cov.nil), (x5x 0 rfl Cov.nil), HE.nil, HE.nil, rfl⟩
  try simp at hc14
  have hX2 : ¬ (0 ≤ v ∧ v ≤ 9999) := by omega
  refine x7x x9x (by rfl) ?_
  refine x2x rfl ?_
  refine y6y ⟨.inr rfl, ?_⟩
  clear hK13 K13 hK10 K10
  refine z9z rfl ?_ rfl
  exact kF (fun h => hX2 (h.2 v (List.mem_of_getElem? hv)))
 try simp at hg2
 refine x0x rfl ?_
 refine y9y rfl rfl ?_
 refine v3v rfl u1u rfl ?_
 refine y9y rfl rfl ?_
 refine z0z rfl rfl rfl ?_
 refine z4z rfl rfl ?_
 refine y1y rfl (fun hc3 => ?_) (fun hc3 => ?_)
 ·try simp at hc3
  have hX : ¬ (l.length = 0 ∨ l.length = 3) := by (rintro (h | h); exact absurd (List.length_eq_zero_iff.1 h) ‹_›; omega)
  refine x7x x9x (by rfl) ?_
  refine x2x rfl ?_
  refine y6y ⟨.inr rfl, ?_⟩
  clear hK1 K1
  refine z9z rfl ?_ rfl
  exact kF (fun h => hX h.1)
 try simp at hc3
 have hL : l.length = 0 ∨ l.length = 3 := by omega
 refine y8y ?_
 refine hK1 _ _ ?_
 clear hK1 K1
 refine x8x fun K4 hK4 => ?_
 refine x7x x9x (by rfl) ?_
 refine x2x rfl ?_
 refine y7y ?_
 refine v9v (ι := Nat) (fun i γ1 => [(3, .pv (.int .i64 (i : Int)))]) (fun i γ1 => []) (fun i => i ≤ l.length ∧ c5p l (fun _ v => 0 ≤ v ∧ v ≤ 9999) i) (fun i => l.length - i) (x5x 0 rfl Cov.nil) HE.nil 0 ⟨by omega, b0r⟩ [] (x5x 3 rfl Cov.nil) HE.nil rfl fun i γ1 hi => ?_
 try dsimp only [List.cons_append, List.nil_append]
 obtain ⟨h1, h2⟩ := hi
 refine x8x fun K5 hK5 => ?_
 refine x7x x9x (by rfl) ?_
 refine x0x rfl ?_
 refine x0x rfl ?_
 refine v3v rfl u1u rfl ?_
 refine z0z rfl rfl rfl ?_
 refine y1y rfl (fun hc6 => ?_) (fun hc6 => ?_)
 rotate_left
 ·try simp at hc6
  have hall := b3j h2 (by omega)
  refine v7v ?_
  refine hK4 _ _ ?_
  clear hK5 K5 hK4 K4
  refine x7x x9x (by rfl) ?_
  refine x2x rfl ?_
  refine y6y ⟨.inr rfl, ?_⟩
  refine z9z rfl ?_ rfl
  exact kT ⟨hL, fun v hv => by obtain ⟨i, hi⟩ := List.getElem?_of_mem hv; exact hall i v hi⟩
 try simp at hc6
 obtain ⟨v, hv⟩ : ∃ v, l[i]? = some v := s8s (by omega)
 refine y8y ?_
 refine hK5 _ _ ?_
 clear hK5 K5
 refine x8x fun K7 hK7 => ?_
 refine y7y ?_
 refine q5q x9x s7s (by rfl) ?_
 refine x0x rfl ?_
 refine x0x rfl ?_
 refine v0v rfl rfl u1u rfl y5y rfl hv ?_
 refine z6z rfl y5y rfl ?_
 refine z7z rfl rfl rfl (q1q ..) ?_
 refine z7z rfl rfl rfl (p4p ..) ?_
 refine s6s rfl ?_
 refine ⟨by kernel_rfl, ?_⟩
 refine y1y rfl (fun hc8 => ?_) (fun hc8 => ?_)
 rotate_left
 ·try simp at hc8
  have hb : 0 ≤ v ∧ v ≤ 9999 := by omega
  refine y8y ?_
  refine hK7 _ _ ?_
  clear hK7 K7
  refine y0y x9x (by rfl) ?_
  refine x0x rfl ?_
  refine r0r (b := 1) rfl rfl (by omega) ?_
  refine x2x rfl ?_
  exact ⟨i + 1, ⟨⟨by omega, b0s h2 hv hb⟩, by omega⟩, [], (x5x 3 rfl Cov.nil), (x5x 0 rfl Cov.nil), HE.nil, HE.nil, rfl⟩
 try simp at hc8
 have hX2 : ¬ (0 ≤ v ∧ v ≤ 9999) := by omega
 refine x7x x9x (by rfl) ?_
 refine x2x rfl ?_
 refine y6y ⟨.inr rfl, ?_⟩
 clear hK7 K7 hK4 K4
 refine z9z rfl ?_ rfl
 exact kF (fun h => hX2 (h.2 v (List.mem_of_getElem? hv)))
theorem a7t (c : Bool) (w : Wo) : a2g Try.prog 49 [.agg (a5s c w)] (.pv (.bool (decide (s9s w)))) := by
 refine u9u x9x (fn := Try.f49) (by kernel_rfl) (by kernel_rfl) rfl (outs := [.pv (.bool (decide (s9s w)))]) (by rfl) (u3u rfl) 1 ?_
 refine x7x x9x (by rfl) ?_
 refine r5r (id := 0) rfl rfl rfl ?_
 refine x2x rfl ?_
 refine q5q x9x s7s (by rfl) ?_
 refine x1x rfl z5z rfl rfl y5y rfl rfl ?_
 refine x3x rfl y5y rfl rfl ?_
 refine z7z rfl rfl rfl (p4p ..) ?_
 refine x0x rfl ?_
 refine a0d rfl rfl (fun hg1 => ?_) (fun hg1 => ?_)
 rotate_left
 ·try simp at hg1
  have hX : ¬ r6r w := by unfold r6r; omega
  refine x4x rfl rfl ?_
  refine x4x rfl rfl ?_
  refine x6x rfl rfl ?_
  refine x0x rfl ?_
  refine x4x rfl rfl ?_
  refine x4x rfl rfl ?_
  refine x4x rfl rfl ?_
  refine x6x rfl rfl ?_
  refine x0x rfl ?_
  refine x4x rfl rfl ?_
  refine x4x rfl rfl ?_
  refine x4x rfl rfl ?_
  refine x4x rfl rfl ?_
  refine x6x rfl rfl ?_
  refine x0x rfl ?_
  refine x4x rfl rfl ?_
  refine x4x rfl rfl ?_
  refine x4x rfl rfl ?_
  refine x4x rfl rfl ?_
  refine x6x rfl rfl ?_
  refine x0x rfl ?_
  refine x4x rfl rfl ?_
  refine x4x rfl rfl ?_
  refine x4x rfl rfl ?_
  refine x4x rfl rfl ?_
  refine x6x rfl rfl ?_
  refine x0x rfl ?_
  refine x4x rfl rfl ?_
  refine x4x rfl rfl ?_
  refine x4x rfl rfl ?_
  refine x6x rfl rfl ?_
  refine x0x rfl ?_
  refine x4x rfl rfl ?_
  refine x4x rfl rfl ?_
  refine x4x rfl rfl ?_
  refine x6x rfl rfl ?_
  refine x0x rfl ?_
  refine x4x rfl rfl ?_
  refine x4x rfl rfl ?_
  refine x4x rfl rfl ?_
  refine x6x rfl rfl ?_
  refine x0x rfl ?_
  refine x4x rfl rfl ?_
  refine x4x rfl rfl ?_
  refine x4x rfl rfl ?_
  refine x4x rfl rfl ?_
  refine x6x rfl rfl ?_
  refine x0x rfl ?_
  refine x4x rfl rfl ?_
  refine x4x rfl rfl ?_
  refine x4x rfl rfl ?_
  refine x6x rfl rfl ?_
  refine x2x rfl ?_
  refine ⟨by kernel_rfl, ?_⟩
  refine y6y ⟨.inr rfl, ?_⟩
  refine z9z rfl ?_ rfl
  exact kF (fun h => hX h.1)
 try simp at hg1
 refine x1x rfl z5z rfl rfl y5y rfl rfl ?_
 refine y9y rfl rfl ?_
 refine x3x rfl y5y rfl rfl ?_
 refine y9y rfl rfl ?_
 refine z7z rfl rfl rfl (p4p ..) ?_
 refine z4z rfl rfl ?_
 refine x0x rfl ?_
 refine a0d rfl rfl (fun hg2 => ?_) (fun hg2 => ?_)
 rotate_left
 ·try simp at hg2
  have hX : ¬ r6r w := by unfold r6r; omega
  refine x4x rfl rfl ?_
  refine x4x rfl rfl ?_
  refine x6x rfl rfl ?_
  refine x0x rfl ?_
  refine x4x rfl rfl ?_
  refine x4x rfl rfl ?_
  refine x4x rfl rfl ?_
  refine x4x rfl rfl ?_
  refine x6x rfl rfl ?_
  refine x0x rfl ?_
  refine x4x rfl rfl ?_
  refine x4x rfl rfl ?_
  refine x4x rfl rfl ?_
  refine x4x rfl rfl ?_
  refine x6x rfl rfl ?_
  refine x0x rfl ?_
  refine x4x rfl rfl ?_
  refine x4x rfl rfl ?_
  refine x4x rfl rfl ?_
  refine x4x rfl rfl ?_
  refine x6x rfl rfl ?_
  refine x0x rfl ?_
  refine x4x rfl rfl ?_
  refine x4x rfl rfl ?_
  refine x4x rfl rfl ?_
  refine x6x rfl rfl ?_
  refine x0x rfl ?_
  refine x4x rfl rfl ?_
  refine x4x rfl rfl ?_
  refine x4x rfl rfl ?_
  refine x6x rfl rfl ?_
  refine x0x rfl ?_
  refine x4x rfl rfl ?_
  refine x4x rfl rfl ?_
  refine x4x rfl rfl ?_
  refine x6x rfl rfl ?_
  refine x0x rfl ?_
  refine x4x rfl rfl ?_
  refine x4x rfl rfl ?_
  refine x4x rfl rfl ?_
  refine x4x rfl rfl ?_
  refine x6x rfl rfl ?_
  refine x0x rfl ?_
  refine x4x rfl rfl ?_
  refine x4x rfl rfl ?_
  refine x4x rfl rfl ?_
  refine x6x rfl rfl ?_
  refine x2x rfl ?_
  refine ⟨by kernel_rfl, ?_⟩
  refine y6y ⟨.inr rfl, ?_⟩
  refine z9z rfl ?_ rfl
  exact kF (fun h => hX h.1)
 try simp at hg2
 refine x1x rfl z5z rfl rfl y5y rfl rfl ?_
 refine y9y rfl rfl ?_
 refine x3x rfl y5y rfl rfl ?_
 refine y9y rfl rfl ?_
 refine z7z rfl rfl rfl (p4p ..) ?_
 refine z4z rfl rfl ?_
 refine x0x rfl ?_
 refine a0d rfl rfl (fun hg3 => ?_) (fun hg3 => ?_)
 rotate_left
 ·try simp at hg3
  have hX : ¬ r6r w := by unfold r6r; omega
  refine x4x rfl rfl ?_
  refine x4x rfl rfl ?_
  refine x4x rfl rfl ?_
  refine x6x rfl rfl ?_
  refine x0x rfl ?_
  refine x4x rfl rfl ?_
  refine x4x rfl rfl ?_
  refine x4x rfl rfl ?_
  refine x4x rfl rfl ?_
  refine x6x rfl rfl ?_
  refine x0x rfl ?_
  refine x4x rfl rfl ?_
  refine x4x rfl rfl ?_
  refine x4x rfl rfl ?_
  refine x4x rfl rfl ?_
  refine x6x rfl rfl ?_
  refine x0x rfl ?_
  refine x4x rfl rfl ?_
  refine x4x rfl rfl ?_
  refine x4x rfl rfl ?_
  refine x6x rfl rfl ?_
  refine x0x rfl ?_
  refine x4x rfl rfl ?_
  refine x4x rfl rfl ?_
  refine x4x rfl rfl ?_
  refine x6x rfl rfl ?_
  refine x0x rfl ?_
  refine x4x rfl rfl ?_
  refine x4x rfl rfl ?_
  refine x4x rfl rfl ?_
  refine x6x rfl rfl ?_
  refine x0x rfl ?_
  refine x4x rfl rfl ?_
  refine x4x rfl rfl ?_
  refine x4x rfl rfl ?_
  refine x4x rfl rfl ?_
  refine x6x rfl rfl ?_
  refine x0x rfl ?_
  refine x4x rfl rfl ?_
  refine x4x rfl rfl ?_
  refine x4x rfl rfl ?_
  refine x6x rfl rfl ?_
  refine x2x rfl ?_
  refine ⟨by kernel_rfl, ?_⟩
  refine y6y ⟨.inr rfl, ?_⟩
  refine z9z rfl ?_ rfl
  exact kF (fun h => hX h.1)
 try simp at hg3
 refine x1x rfl z5z rfl rfl y5y rfl rfl ?_
 refine y9y rfl rfl ?_
 refine x3x rfl y5y rfl rfl ?_
 refine y9y rfl rfl ?_
 refine z7z rfl rfl rfl (q1q ..) ?_
 refine y9y rfl rfl ?_
 refine z7z rfl rfl rfl (p4p ..) ?_
 refine z4z rfl rfl ?_
 refine x0x rfl ?_
 refine a0d rfl rfl (fun hg4 => ?_) (fun hg4 => ?_)
 rotate_left
 ·try simp at hg4
  have hX : ¬ r6r w := by unfold r6r; omega
  refine x4x rfl rfl ?_
  refine x4x rfl rfl ?_
  refine x4x rfl rfl ?_
  refine x6x rfl rfl ?_
  refine x0x rfl ?_
  refine x4x rfl rfl ?_
  refine x4x rfl rfl ?_
  refine x4x rfl rfl ?_
  refine x4x rfl rfl ?_
  refine x6x rfl rfl ?_
  refine x0x rfl ?_
  refine x4x rfl rfl ?_
  refine x4x rfl rfl ?_
  refine x4x rfl rfl ?_
  refine x6x rfl rfl ?_
  refine x0x rfl ?_
  refine x4x rfl rfl ?_
  refine x4x rfl rfl ?_
  refine x4x rfl rfl ?_
  refine x6x rfl rfl ?_
  refine x0x rfl ?_
  refine x4x rfl rfl ?_
  refine x4x rfl rfl ?_
  refine x4x rfl rfl ?_
  refine x6x rfl rfl ?_
  refine x0x rfl ?_
  refine x4x rfl rfl ?_
  refine x4x rfl rfl ?_
  refine x4x rfl rfl ?_
  refine x4x rfl rfl ?_
  refine x6x rfl rfl ?_
  refine x0x rfl ?_
  refine x4x rfl rfl ?_
  refine x4x rfl rfl ?_
  refine x4x rfl rfl ?_
  refine x6x rfl rfl ?_
  refine x2x rfl ?_
  refine ⟨by kernel_rfl, ?_⟩
  refine y6y ⟨.inr rfl, ?_⟩
  refine z9z rfl ?_ rfl
  exact kF (fun h => hX h.1)
 try simp at hg4
 refine x1x rfl z5z rfl rfl y5y rfl rfl ?_
 refine y9y rfl rfl ?_
 refine x3x rfl y5y rfl rfl ?_
 refine y9y rfl rfl ?_
 refine z7z rfl rfl rfl (q1q ..) ?_
 refine y9y rfl rfl ?_
 refine z7z rfl rfl rfl (p4p ..) ?_
 refine z4z rfl rfl ?_
 refine x0x rfl ?_
 refine a0d rfl rfl (fun hg5 => ?_) (fun hg5 => ?_)
 rotate_left
 ·try simp at hg5
  have hX : ¬ r6r w := by unfold r6r; omega
  refine x4x rfl rfl ?_
  refine x4x rfl rfl ?_
  refine x4x rfl rfl ?_
  refine x6x rfl rfl ?_
  refine x0x rfl ?_
  refine x4x rfl rfl ?_
  refine x4x rfl rfl ?_
  refine x4x rfl rfl ?_
  refine x6x rfl rfl ?_
  refine x0x rfl ?_
  refine x4x rfl rfl ?_
  refine x4x rfl rfl ?_
  refine x4x rfl rfl ?_
  refine x6x rfl rfl ?_
  refine x0x rfl ?_
  refine x4x rfl rfl ?_
  refine x4x rfl rfl ?_
  refine x4x rfl rfl ?_
  refine x6x rfl rfl ?_
  refine x0x rfl ?_
  refine x4x rfl rfl ?_
  refine x4x rfl rfl ?_
  refine x4x rfl rfl ?_
  refine x4x rfl rfl ?_
  refine x6x rfl rfl ?_
  refine x0x rfl ?_
  refine x4x rfl rfl ?_
  refine x4x rfl rfl ?_
  refine x4x rfl rfl ?_
  refine x6x rfl rfl ?_
  refine x2x rfl ?_
  refine ⟨by kernel_rfl, ?_⟩
  refine y6y ⟨.inr rfl, ?_⟩
  refine z9z rfl ?_ rfl
  exact kF (fun h => hX h.1)
 try simp at hg5
 refine x1x rfl z5z rfl rfl y5y rfl rfl ?_
 refine y9y rfl rfl ?_
 refine x3x rfl y5y rfl rfl ?_
 refine y9y rfl rfl ?_
 refine z7z rfl rfl rfl (q1q ..) ?_
 refine y9y rfl rfl ?_
 refine z7z rfl rfl rfl (p4p ..) ?_
 refine z4z rfl rfl ?_
 refine x0x rfl ?_
 refine a0d rfl rfl (fun hg6 => ?_) (fun hg6 => ?_)
 rotate_left
 ·try simp at hg6
  have hX : ¬ r6r w := by unfold r6r; omega
  refine x4x rfl rfl ?_
  refine x4x rfl rfl ?_
  refine x6x rfl rfl ?_
  refine x0x rfl ?_
  refine x4x rfl rfl ?_
  refine x4x rfl rfl ?_
  refine x4x rfl rfl ?_
  refine x6x rfl rfl ?_
  refine x0x rfl ?_
  refine x4x rfl rfl ?_
  refine x4x rfl rfl ?_
  refine x4x rfl rfl ?_
  refine x6x rfl rfl ?_
  refine x0x rfl ?_
  refine x4x rfl rfl ?_
  refine x4x rfl rfl ?_
  refine x4x rfl rfl ?_
  refine x4x rfl rfl ?_
  refine x6x rfl rfl ?_
  refine x0x rfl ?_
  refine x4x rfl rfl ?_
  refine x4x rfl rfl ?_
  refine x4x rfl rfl ?_
  refine x6x rfl rfl ?_
  refine x2x rfl ?_
  refine ⟨by kernel_rfl, ?_⟩
  refine y6y ⟨.inr rfl, ?_⟩
  refine z9z rfl ?_ rfl
  exact kF (fun h => hX h.1)
 try simp at hg6
 refine x1x rfl z5z rfl rfl y5y rfl rfl ?_
 refine y9y rfl rfl ?_
 refine x3x rfl y5y rfl rfl ?_
 refine y9y rfl rfl ?_
 refine z7z rfl rfl rfl (p4p ..) ?_
 refine z4z rfl rfl ?_
 refine x0x rfl ?_
 refine a0d rfl rfl (fun hg7 => ?_) (fun hg7 => ?_)
 rotate_left
 ·try simp at hg7
  have hX : ¬ r6r w := by unfold r6r; omega
  refine x4x rfl rfl ?_
  refine x4x rfl rfl ?_
  refine x6x rfl rfl ?_
  refine x0x rfl ?_
  refine x4x rfl rfl ?_
  refine x4x rfl rfl ?_
  refine x4x rfl rfl ?_
  refine x6x rfl rfl ?_
  refine x0x rfl ?_
  refine x4x rfl rfl ?_
  refine x4x rfl rfl ?_
  refine x4x rfl rfl ?_
  refine x4x rfl rfl ?_
  refine x6x rfl rfl ?_
  refine x0x rfl ?_
  refine x4x rfl rfl ?_
  refine x4x rfl rfl ?_
  refine x4x rfl rfl ?_
  refine x6x rfl rfl ?_
  refine x2x rfl ?_
  refine ⟨by kernel_rfl, ?_⟩
  refine y6y ⟨.inr rfl, ?_⟩
  refine z9z rfl ?_ rfl
  exact kF (fun h => hX h.1)
 try simp at hg7
 have hN : r6r w := by unfold r6r; omega
 refine x1x rfl z5z rfl rfl u1u rfl rfl ?_
 refine y9y rfl rfl ?_
 refine x3x rfl u1u rfl rfl ?_
 refine y9y rfl rfl ?_
 refine z7z rfl rfl rfl (a6b ..) ?_
 refine z4z rfl rfl ?_
 refine x0x rfl ?_
 refine a0d rfl rfl (fun hg8 => ?_) (fun hg8 => ?_)
 rotate_left
 ·try simp at hg8
  have hX1 : ¬ a3z w.incs := by exact hg8
  refine x4x rfl rfl ?_
  refine x4x rfl rfl ?_
  refine x6x rfl rfl ?_
  refine x0x rfl ?_
  refine x4x rfl rfl ?_
  refine x4x rfl rfl ?_
  refine x4x rfl rfl ?_
  refine x4x rfl rfl ?_
  refine x6x rfl rfl ?_
  refine x0x rfl ?_
  refine x4x rfl rfl ?_
  refine x4x rfl rfl ?_
  refine x4x rfl rfl ?_
  refine x6x rfl rfl ?_
  refine x2x rfl ?_
  refine ⟨by kernel_rfl, ?_⟩
  refine y6y ⟨.inr rfl, ?_⟩
  refine z9z rfl ?_ rfl
  exact kF (fun h => hX1 h.2.1)
 try simp at hg8
 have hI : a3z w.incs := by exact hg8
 refine x1x rfl z5z rfl rfl u1u rfl rfl ?_
 refine y9y rfl rfl ?_
 refine x3x rfl u1u rfl rfl ?_
 refine y9y rfl rfl ?_
 refine z7z rfl rfl rfl (a6b ..) ?_
 refine z4z rfl rfl ?_
 refine x0x rfl ?_
 refine a0d rfl rfl (fun hg9 => ?_) (fun hg9 => ?_)
 rotate_left
 ·try simp at hg9
  have hX2 : ¬ a3z w.versions := by exact hg9
  refine x4x rfl rfl ?_
  refine x4x rfl rfl ?_
  refine x4x rfl rfl ?_
  refine x6x rfl rfl ?_
  refine x0x rfl ?_
  refine x4x rfl rfl ?_
  refine x4x rfl rfl ?_
  refine x4x rfl rfl ?_
  refine x6x rfl rfl ?_
  refine x2x rfl ?_
  refine ⟨by kernel_rfl, ?_⟩
  refine y6y ⟨.inr rfl, ?_⟩
  refine z9z rfl ?_ rfl
  exact kF (fun h => hX2 h.2.2.1)
 try simp at hg9
 have hV : a3z w.versions := by exact hg9
 refine x1x rfl z5z rfl rfl w2w rfl rfl ?_
 refine y9y rfl rfl ?_
 refine x3x rfl w2w rfl rfl ?_
 refine y9y rfl rfl ?_
 refine z7z rfl rfl rfl (b3w ..) ?_
 refine y9y rfl rfl ?_
 refine z7z rfl rfl rfl (b0z ..) ?_
 refine z4z rfl rfl ?_
 refine x0x rfl ?_
 refine a0d rfl rfl (fun hg10 => ?_) (fun hg10 => ?_)
 rotate_left
 ·try simp at hg10
  have hX3 : ¬ a6m okE a3m w.events 100 = true := by simpa using hg10
  refine x4x rfl rfl ?_
  refine x4x rfl rfl ?_
  refine x6x rfl rfl ?_
  refine x2x rfl ?_
  refine ⟨by kernel_rfl, ?_⟩
  refine y6y ⟨.inr rfl, ?_⟩
  refine z9z rfl ?_ rfl
  exact kF (fun h => hX3 h.2.2.2.1)
 try simp at hg10
 have hE : a6m okE a3m w.events 100 = true := by exact hg10
 refine x1x rfl z5z rfl rfl w5w rfl rfl ?_
 refine y9y rfl rfl ?_
 refine x3x rfl w5w rfl rfl ?_
 refine y9y rfl rfl ?_
 refine z7z rfl rfl rfl (b3q ..) ?_
 refine z4z rfl rfl ?_
 refine x2x rfl ?_
 refine ⟨by kernel_rfl, ?_⟩
 refine y6y ⟨.inr rfl, ?_⟩
 refine z9z rfl ?_ rfl
 exact congrArg (fun b : Bool => [AV.pv (.bool b)]) (Bool.eq_iff_iff.2 ⟨fun h => decide_eq_true ⟨hN, hI, hV, hE, h⟩, fun h => (of_decide_eq_true h).2.2.2.2⟩)
end
section
theorem q4q (l : List Nat) (v : Int) (hv : ok7 v) (hl : l.length ≤ 10000000) : Meth Try.prog 50 1 [] [.ref 0 0, .pv (.int .i64 v)] [(0, (0, .row 5 1 ((l).map a1o)))] (.ref 0 0) [(0, (0, .row 5 1 ((l ++ w4w v).map a1o)))] := by
 refine p6p x9x (fn := Try.f50) (by kernel_rfl) (by kernel_rfl) rfl (O0 := [.ref 0 0]) 1 4 (u3u rfl) (by rfl) (by repeat (first | exact BndH.nil | refine BndH.row (a0e fun _ => rfl) ?_)) (by repeat (first | exact BndH.nil | refine BndH.row (a0e fun _ => rfl) ?_)) (by rfl) fun γ => ?_
 show Ex Try.prog _ _ [(0, .ref 0 (γ 0)), (1, .pv (.int .i64 v))] [(0, ((γ 0), .row 5 1 ((l).map a1o))), (4, (0, .dead)), (3, (0, .dead)), (2, (0, .dead)), (1, (0, .dead))] _
 have hv1 := hv.1
 have hv2 := hv.2
 have hE : (w4w v).length ≤ 2 := r4r hv
 refine x7x x9x (by rfl) ?_
 refine x2x rfl ?_
 refine x7x x9x (by rfl) ?_
 refine x0x rfl ?_
 refine u5u (.int .i64 (((v + 1).toNat : Nat) : Int)) rfl rfl rfl (q3q rfl (by omega) (by omega) (by omega)) ?_
 refine x2x rfl ?_
 refine x8x fun K1 hK1 => ?_
 refine y7y ?_
 refine v9v (ι := List Nat × Nat) (fun p γ1 => [(0, .ref 0 (γ1 0)), (1, .pv (.int .i64 (p.2 : Int)))]) (fun p γ1 => [(0, ((γ1 0), .row 5 1 ((p.1).map a1o))), (1, ((γ1 1), .dead)), (2, ((γ1 2), .dead))]) (fun p => p.1 ++ b2e p.2 = l ++ w4w v ∧ p.2 ≤ 10000) (fun p => p.2) Cov.nil (z2z 3 rfl (z2z 4 rfl HE.nil)) (l, (v + 1).toNat) ⟨rfl, by show (v + 1).toNat ≤ 10000; omega⟩ [_, _, _] (x5x 0 rfl (x5x 1 rfl Cov.nil)) (HE.row rfl rfl (HE.kill rfl (HE.kill rfl HE.nil))) rfl fun p γ1 hi => ?_
 try dsimp only [List.cons_append, List.nil_append]
 obtain ⟨l', q⟩ := p
 obtain ⟨h1, h2⟩ := hi
 dsimp only at h1 h2 ⊢
 have hL := congrArg List.length h1
 rw [List.length_append, List.length_append] at hL
 refine x8x fun K2 hK2 => ?_
 refine x7x x9x (by rfl) ?_
 refine x0x rfl ?_
 refine z0z rfl rfl rfl ?_
 refine y1y rfl (fun hc3 => ?_) (fun hc3 => ?_)
 rotate_left
 ·try simp at hc3
  refine v7v ?_
  refine hK1 _ _ ?_
  clear hK2 K2 hK1 K1
  refine x7x x9x (by rfl) ?_
  refine x0x rfl ?_
  refine x0x rfl ?_
  refine s5s (((q : Nat) : Int)) rfl y5y a0o rfl rfl (b5o (by omega) (by omega)) ?_
  refine a1y (id := 3) v6v rfl a0o rfl rfl rfl rfl rfl ?_
  refine r7r (zs := (l' ++ [q]).map a1o) rfl rfl v6v rfl a0o rfl rfl rfl rfl (by rfl) (a1l _ _ _) (by (simp only [List.length_map, List.length_append, List.length_cons, List.length_nil, List.length_take, T5]; omega)) ?_
  refine x2x rfl ?_
  refine y6y ?_
  exact ⟨.inr rfl, [_], rfl, rfl, (HE.row rfl (by rw [← h1, a4q (by omega)]) HE.nil)⟩
 try simp at hc3
 refine y8y ?_
 refine hK2 _ _ ?_
 clear hK2 K2
 refine y7y ?_
 refine x7x x9x (by rfl) ?_
 refine x0x rfl ?_
 refine x0x rfl ?_
 refine a4h (b := 128) rfl rfl (by omega) ?_
 refine r0r (a := 128) rfl rfl (by omega) ?_
 refine s5s (((128 + q % 128 : Nat) : Int)) rfl y5y a0o rfl rfl (b5o (by omega) (by omega)) ?_
 refine a1y (id := 1) v6v rfl a0o rfl rfl rfl rfl rfl ?_
 refine r7r (zs := (l' ++ [128 + q % 128]).map a1o) rfl rfl v6v rfl a0o rfl rfl rfl rfl (by rfl) (a1l _ _ _) (by (simp only [List.length_map, List.length_append, List.length_cons, List.length_nil, List.length_take, T5]; omega)) ?_
 refine x2x rfl ?_
 refine y0y x9x (by rfl) ?_
 refine x0x rfl ?_
 refine b6m (b := 128) rfl rfl (by omega) (by omega) ?_
 refine x2x rfl ?_
 exact ⟨(l' ++ [128 + q % 128], q / 128), ⟨⟨by rw [a6j (by omega)] at h1; rw [← h1, List.append_assoc]; rfl, by show q / 128 ≤ 10000; omega⟩, (by show q / 128 < q; omega)⟩, [_, _, _], (x5x 0 rfl (x5x 1 rfl Cov.nil)), Cov.nil, (HE.row rfl rfl (HE.kill rfl (HE.kill rfl HE.nil))), (z2z 3 rfl (z2z 4 rfl HE.nil)), rfl⟩
theorem a1s (c : Bool) (b : List Nat) (l : List Int) (hv : ∀ v ∈ l, ok7 v) (hl : l.length ≤ 9999) (hb : b.length ≤ 1000000) : Meth Try.prog 51 1 [] [.ref 0 0, p1p c l] [(0, (0, .row 5 1 ((b).map a1o)))] (.ref 0 0) [(0, (0, .row 5 1 ((b ++ w4w (l.length : Int) ++ u6u l).map a1o)))] := by
 refine p6p x9x (fn := Try.f51) (by kernel_rfl) (by kernel_rfl) rfl (O0 := [.ref 0 0]) 1 0 (u3u rfl) (by rfl) (by repeat (first | exact BndH.nil | refine BndH.row (a0e fun _ => rfl) ?_)) (by repeat (first | exact BndH.nil | refine BndH.row (a0e fun _ => rfl) ?_)) (by rfl) fun γ => ?_
 show Ex Try.prog _ _ [(0, .ref 0 (γ 0)), (1, p1p c l)] [(0, ((γ 0), .row 5 1 ((b).map a1o)))] _
 have hE : (w4w (l.length : Int)).length ≤ 2 := r4r ⟨by omega, by omega⟩
 refine x7x x9x (by rfl) ?_
 refine x2x rfl ?_
 refine x7x x9x (by rfl) ?_
 refine x0x rfl ?_
 refine x0x rfl ?_
 refine v3v rfl u1u rfl ?_
 refine z1z [0] [_] (q4q b (l.length : Int) ⟨by omega, by omega⟩ (by omega)) rfl rfl rfl (by decide) rfl rfl (by repeat (first | exact InH.nil | refine InH.cons rfl ?_)) (by (simp only [pI, y2y, y3y, v4v, gl, nx, v2v, Nat.beq]; rfl)) (by (simp only [pI, y2y, y3y, v4v, gl, nx, v2v, Nat.beq]; rfl)) ?_
 refine x2x rfl ?_
 refine x8x fun K1 hK1 => ?_
 refine x7x x9x (by rfl) ?_
 refine x2x rfl ?_
 refine y7y ?_
 refine v9v (ι := Nat) (fun i γ1 => [(0, .ref 0 (γ1 0)), (5, .pv (.int .i64 (i : Int)))]) (fun i γ1 => [(0, ((γ1 0), .row 5 1 ((b ++ w4w (l.length : Int) ++ u6u (l.take i)).map a1o)))]) (fun i => i ≤ l.length) (fun i => l.length - i) (x5x 1 rfl Cov.nil) HE.nil 0 (by omega) [_] (x5x 0 rfl (x5x 5 rfl Cov.nil)) (HE.row rfl (by rw [List.take_zero, show u6u [] = [] from rfl, List.append_nil]) HE.nil) rfl fun i γ1 hi => ?_
 try dsimp only [List.cons_append, List.nil_append]
 refine x8x fun K2 hK2 => ?_
 refine x7x x9x (by rfl) ?_
 refine x0x rfl ?_
 refine x0x rfl ?_
 refine v3v rfl u1u rfl ?_
 refine z0z rfl rfl rfl ?_
 refine y1y rfl (fun hc3 => ?_) (fun hc3 => ?_)
 rotate_left
 ·try simp at hc3
  obtain rfl : i = l.length := by omega
  rw [List.take_length]
  refine v7v ?_
  refine hK1 _ _ ?_
  clear hK2 K2 hK1 K1
  refine x7x x9x (by rfl) ?_
  refine x0x rfl ?_
  refine x2x rfl ?_
  refine y6y ?_
  exact ⟨.inr rfl, [_], rfl, rfl, (HE.row rfl rfl HE.nil)⟩
 try simp at hc3
 obtain ⟨x, hx⟩ : ∃ x, l[i]? = some x := s8s (by omega)
 have hT := p9p (l := l.take i) (fun v h => hv v (List.mem_of_mem_take h))
 rw [List.length_take] at hT
 refine y8y ?_
 refine hK2 _ _ ?_
 clear hK2 K2
 refine x8x fun K4 hK4 => ?_
 refine y7y ?_
 refine y0y x9x (by rfl) ?_
 refine x0x rfl ?_
 refine x0x rfl ?_
 refine x0x rfl ?_
 refine v0v rfl rfl u1u rfl y5y rfl hx ?_
 refine z6z rfl y5y rfl ?_
 refine z1z [0] [_] (q4q (b ++ w4w (l.length : Int) ++ u6u (l.take i)) x (hv x (List.mem_of_getElem? hx)) (by (simp only [List.length_append, List.length_take]; omega))) rfl rfl rfl (by decide) rfl rfl (by repeat (first | exact InH.nil | refine InH.cons rfl ?_)) (by (simp only [pI, y2y, y3y, v4v, gl, nx, v2v, Nat.beq]; rfl)) (by (simp only [pI, y2y, y3y, v4v, gl, nx, v2v, Nat.beq]; rfl)) ?_
 refine x2x rfl ?_
 refine hK4 _ _ ?_
 clear hK4 K4
 refine y0y x9x (by rfl) ?_
 refine x0x rfl ?_
 refine a0j rfl rfl rfl ?_
 refine x2x rfl ?_
 exact ⟨i + 1, ⟨by omega, by omega⟩, [_], (x5x 0 rfl (Cov.cons' (t := 5) rfl (by rw [w0w (by omega) (by omega)]; rfl) Cov.nil)), (x5x 1 rfl Cov.nil), (HE.row rfl (by rw [r8r hx, a1f, List.append_assoc (b ++ w4w (l.length : Int))]) HE.nil), HE.nil, rfl⟩
theorem a4s (e : Ev) : a2g Try.prog 52 [.agg (a0i e)] (p1p true (evN e)) := by
 refine u9u x9x (fn := Try.f52) (by kernel_rfl) (by kernel_rfl) rfl (outs := [p1p true (evN e)]) (by rfl) (u3u rfl) 2 ?_
 refine x7x x9x (by rfl) ?_
 refine r5r (id := 0) rfl rfl rfl ?_
 refine x2x rfl ?_
 refine x7x x9x (by rfl) ?_
 refine x1x rfl v1v rfl rfl y5y rfl rfl ?_
 refine x3x rfl y5y rfl rfl ?_
 refine x1x rfl v1v rfl rfl y5y rfl rfl ?_
 refine x3x rfl y5y rfl rfl ?_
 refine x1x rfl v1v rfl rfl y5y rfl rfl ?_
 refine x3x rfl y5y rfl rfl ?_
 refine x1x rfl v1v rfl rfl y5y rfl rfl ?_
 refine x3x rfl y5y rfl rfl ?_
 refine x1x rfl v1v rfl rfl y5y rfl rfl ?_
 refine x3x rfl y5y rfl rfl ?_
 refine x1x rfl v1v rfl rfl y5y rfl rfl ?_
 refine x3x rfl y5y rfl rfl ?_
 refine x1x rfl v1v rfl rfl y5y rfl rfl ?_
 refine x3x rfl y5y rfl rfl ?_
 refine u0u (id := 1) u1u rfl y5y rfl rfl rfl rfl (.val rfl rfl (.val rfl rfl (.val rfl rfl (.val rfl rfl (.val rfl rfl (.val rfl rfl (.val rfl rfl .nil))))))) rfl (u3u rfl) (u3u rfl) (u3u rfl) rfl rfl ?_
 refine x2x rfl ?_
 refine y6y ⟨.inr rfl, ?_⟩
 exact ⟨_, _, rfl, .ref rfl (Le.ow_map (f := a2m) (evN e) (fun _ => rfl) (fun _ => rfl)) .nil⟩
theorem a7u (o : Ou) : a2g Try.prog 53 [.agg (a2c o)] (p1p true (ouL o)) := by
 refine u9u x9x (fn := Try.f53) (by kernel_rfl) (by kernel_rfl) rfl (outs := [p1p true (ouL o)]) (by rfl) (u3u rfl) 2 ?_
 refine x7x x9x (by rfl) ?_
 refine r5r (id := 0) rfl rfl rfl ?_
 refine x2x rfl ?_
 refine x7x x9x (by rfl) ?_
 refine x1x rfl v8v rfl rfl y5y rfl rfl ?_
 refine x3x rfl y5y rfl rfl ?_
 refine x1x rfl v8v rfl rfl y5y rfl rfl ?_
 refine x3x rfl y5y rfl rfl ?_
 refine x1x rfl v8v rfl rfl y5y rfl rfl ?_
 refine x3x rfl y5y rfl rfl ?_
 refine x1x rfl v8v rfl rfl y5y rfl rfl ?_
 refine x3x rfl y5y rfl rfl ?_
 refine x1x rfl v8v rfl rfl y5y rfl rfl ?_
 refine x3x rfl y5y rfl rfl ?_
 refine u0u (id := 1) u1u rfl y5y rfl rfl rfl rfl (.val rfl rfl (.val rfl rfl (.val rfl rfl (.val rfl rfl (.val rfl rfl .nil))))) rfl (u3u rfl) (u3u rfl) (u3u rfl) rfl rfl ?_
 refine x2x rfl ?_
 refine y6y ⟨.inr rfl, ?_⟩
 exact ⟨_, _, rfl, .ref rfl (Le.ow_map (f := a2m) (ouL o) (fun _ => rfl) (fun _ => rfl)) .nil⟩
theorem b1e (c : Bool) (w : Wo) : a2g Try.prog 18 [.agg (a5s c w)] (v5v true (a3u w)) := by
 refine u9u x9x (fn := Try.f18) (by kernel_rfl) (by kernel_rfl) rfl (outs := [v5v true (a3u w)]) (by rfl) (u3u rfl) 3 ?_
 refine x7x x9x (by rfl) ?_
 refine r5r (id := 0) rfl rfl rfl ?_
 refine x2x rfl ?_
 refine x7x x9x (by rfl) ?_
 refine a1x (id := 1) v6v rfl a0o rfl ?_
 refine x2x rfl ?_
 refine x8x fun K1 hK1 => ?_
 refine x7x x9x (by rfl) ?_
 refine z3z rfl z5z rfl rfl rfl ?_
 refine z7z rfl rfl rfl (a7t ..) ?_
 refine s6s rfl ?_
 refine y1y rfl (fun hc2 => ?_) (fun hc2 => ?_)
 ·try simp at hc2
  have hX : ¬ s9s w := by simpa using hc2
  refine x7x x9x (by rfl) ?_
  refine x0x rfl ?_
  refine x2x rfl ?_
  refine y6y ⟨.inr rfl, ?_⟩
  clear hK1 K1
  (rw [a8m hX]; exact ⟨_, _, rfl, .ref rfl (Le.ow_map (f := a1o) [] (fun _ => rfl) (fun _ => rfl)) .nil⟩)
 try simp at hc2
 have hW : s9s w := by simpa using hc2
 have k1 := a2v hW.2.1
 have k2 := a2v hW.2.2.1
 have k3 := (a0n hW.2.2.2.1).1
 have k4 := (a0n hW.2.2.2.2).1
 have b1 := p9p (a0q hW)
 have b0 : (q2q w).length = 7 := rfl
 have b2 : (w4w (w.incs.length : Int)).length ≤ 2 := r4r ⟨by omega, by omega⟩
 have b3 : (w4w (w.versions.length : Int)).length ≤ 2 := r4r ⟨by omega, by omega⟩
 have b4 : (w4w (w.events.length : Int)).length ≤ 2 := r4r ⟨by omega, by omega⟩
 have b5 : (w4w (w.outs.length : Int)).length ≤ 2 := r4r ⟨by omega, by omega⟩
 have b6 := p9p (a0l hW.2.1)
 have b7 := p9p (a0l hW.2.2.1)
 have b8 := a2d (a0f hW)
 have b9 := a2e (a0g hW)
 refine y8y ?_
 refine hK1 _ _ ?_
 clear hK1 K1
 refine x7x x9x (by rfl) ?_
 refine x1x rfl z5z rfl rfl y5y rfl rfl ?_
 refine x3x rfl y5y rfl rfl ?_
 refine x1x rfl z5z rfl rfl y5y rfl rfl ?_
 refine x3x rfl y5y rfl rfl ?_
 refine x1x rfl z5z rfl rfl y5y rfl rfl ?_
 refine x3x rfl y5y rfl rfl ?_
 refine x1x rfl z5z rfl rfl y5y rfl rfl ?_
 refine x3x rfl y5y rfl rfl ?_
 refine x1x rfl z5z rfl rfl y5y rfl rfl ?_
 refine x3x rfl y5y rfl rfl ?_
 refine x1x rfl z5z rfl rfl y5y rfl rfl ?_
 refine x3x rfl y5y rfl rfl ?_
 refine x1x rfl z5z rfl rfl y5y rfl rfl ?_
 refine x3x rfl y5y rfl rfl ?_
 refine u0u (id := 2) u1u rfl y5y rfl rfl rfl rfl (.val rfl rfl (.val rfl rfl (.val rfl rfl (.val rfl rfl (.val rfl rfl (.val rfl rfl (.val rfl rfl .nil))))))) rfl (u3u rfl) (u3u rfl) (u3u rfl) rfl rfl ?_
 refine x2x rfl ?_
 refine x8x fun K3 hK3 => ?_
 refine x7x x9x (by rfl) ?_
 refine x2x rfl ?_
 refine y7y ?_
 refine v9v (ι := Nat) (fun i γ1 => [(3, .ref 1 (γ1 1)), (5, .pv (.int .i64 (i : Int)))]) (fun i γ1 => [(1, ((γ1 1), .row 5 1 ((u6u ((q2q w).take i)).map a1o)))]) (fun i => i ≤ 7) (fun i => 7 - i) (x5x 1 rfl (x5x 4 rfl Cov.nil)) (z2z 0 rfl (z2z 2 rfl HE.nil)) 0 (by omega) [0, _] (x5x 3 rfl (x5x 5 rfl Cov.nil)) (HE.row rfl (by rw [List.take_zero]; rfl) HE.nil) rfl fun i γ1 hi => ?_
 try dsimp only [List.cons_append, List.nil_append]
 refine x8x fun K4 hK4 => ?_
 refine x7x x9x (by rfl) ?_
 refine x0x rfl ?_
 refine x0x rfl ?_
 refine a2o (n := 7) rfl u1u rfl rfl rfl ?_
 refine z0z rfl rfl rfl ?_
 refine y1y rfl (fun hc5 => ?_) (fun hc5 => ?_)
 ·try simp at hc5
  obtain ⟨x, hx⟩ : ∃ x, (q2q w)[i]? = some x := ⟨_, List.getElem?_eq_getElem (by show i < 7; omega)⟩
  have hT := p9p (l := (q2q w).take i) (fun v h => a0q hW v (List.mem_of_mem_take h))
  rw [List.length_take] at hT
  refine y8y ?_
  refine hK4 _ _ ?_
  clear hK4 K4
  refine x8x fun K6 hK6 => ?_
  refine y7y ?_
  refine y0y x9x (by rfl) ?_
  refine x0x rfl ?_
  refine x0x rfl ?_
  refine x0x rfl ?_
  refine w6w (f := a2m) (l := q2q w) (j := i) rfl rfl u1u rfl y5y rfl rfl (by show i < 7; omega) ?_
  refine w8w (f := a2m) (l := q2q w) rfl y5y rfl hx rfl ?_
  refine z1z [1] [_] (q4q (u6u ((q2q w).take i)) x (a0q hW x (List.mem_of_getElem? hx)) (by omega)) rfl rfl rfl (by decide) rfl rfl (by repeat (first | exact InH.nil | refine InH.cons rfl ?_)) (by (simp only [pI, y2y, y3y, v4v, gl, nx, v2v, Nat.beq]; rfl)) (by (simp only [pI, y2y, y3y, v4v, gl, nx, v2v, Nat.beq]; rfl)) ?_
  refine x2x rfl ?_
  refine hK6 _ _ ?_
  clear hK6 K6
  refine y0y x9x (by rfl) ?_
  refine x0x rfl ?_
  refine a0j rfl rfl rfl ?_
  refine x2x rfl ?_
  exact ⟨i + 1, ⟨by omega, by omega⟩, [0, _], (x5x 3 rfl (Cov.cons' (t := 5) rfl (by rw [w0w (by omega) (by omega)]; rfl) Cov.nil)), (x5x 1 rfl (x5x 4 rfl Cov.nil)), (HE.row rfl (by rw [r8r hx, a1f]) HE.nil), (z2z 0 rfl (z2z 2 rfl HE.nil)), rfl⟩
 try simp at hc5
 obtain rfl : i = 7 := by omega
 rw [show (q2q w).take 7 = q2q w from rfl]
 refine v7v ?_
 refine hK3 _ _ ?_
 clear hK4 K4 hK3 K3
 refine q5q x9x s7s (by rfl) ?_
 refine x0x rfl ?_
 refine x1x rfl z5z rfl rfl u1u rfl rfl ?_
 refine x3x rfl u1u rfl rfl ?_
 refine z1z [1] [_] (a1s c (u6u (q2q w)) w.incs (a0l hW.2.1) (by omega) (by omega)) rfl rfl rfl (by decide) rfl rfl (by repeat (first | exact InH.nil | refine InH.cons rfl ?_)) (by (simp only [pI, y2y, y3y, v4v, gl, nx, v2v, Nat.beq]; rfl)) (by (simp only [pI, y2y, y3y, v4v, gl, nx, v2v, Nat.beq]; rfl)) ?_
 refine x1x rfl z5z rfl rfl u1u rfl rfl ?_
 refine x3x rfl u1u rfl rfl ?_
 refine z1z [1] [_] (a1s c (u6u (q2q w) ++ w4w (w.incs.length : Int) ++ u6u w.incs) w.versions (a0l hW.2.2.1) (by omega) (by (simp only [List.length_append, List.length_take]; omega))) rfl rfl rfl (by decide) rfl rfl (by repeat (first | exact InH.nil | refine InH.cons rfl ?_)) (by (simp only [pI, y2y, y3y, v4v, gl, nx, v2v, Nat.beq]; rfl)) (by (simp only [pI, y2y, y3y, v4v, gl, nx, v2v, Nat.beq]; rfl)) ?_
 refine x2x rfl ?_
 refine ⟨by kernel_rfl, ?_⟩
 refine x7x x9x (by rfl) ?_
 refine x0x rfl ?_
 refine x1x rfl z5z rfl rfl w2w rfl rfl ?_
 refine x3x rfl w2w rfl rfl ?_
 refine v3v rfl w2w rfl ?_
 refine z1z [1] [_] (q4q (u6u (q2q w) ++ w4w (w.incs.length : Int) ++ u6u w.incs ++ w4w (w.versions.length : Int) ++ u6u w.versions) (w.events.length : Int) ⟨by omega, by omega⟩ (by (simp only [List.length_append, List.length_take]; omega))) rfl rfl rfl (by decide) rfl rfl (by repeat (first | exact InH.nil | refine InH.cons rfl ?_)) (by (simp only [pI, y2y, y3y, v4v, gl, nx, v2v, Nat.beq]; rfl)) (by (simp only [pI, y2y, y3y, v4v, gl, nx, v2v, Nat.beq]; rfl)) ?_
 refine x2x rfl ?_
 refine x8x fun K7 hK7 => ?_
 refine x7x x9x (by rfl) ?_
 refine x2x rfl ?_
 refine y7y ?_
 refine v9v (ι := Nat) (fun i γ2 => [(3, .ref 1 (γ2 1)), (6, .pv (.int .i64 (i : Int)))]) (fun i γ2 => [(1, ((γ2 1), .row 5 1 ((u6u (q2q w) ++ w4w (w.incs.length : Int) ++ u6u w.incs ++ w4w (w.versions.length : Int) ++ u6u w.versions ++ w4w (w.events.length : Int) ++ r2r (w.events.take i)).map a1o)))]) (fun i => i ≤ w.events.length) (fun i => w.events.length - i) (x5x 1 rfl Cov.nil) (z2z 0 rfl (z2z 2 rfl HE.nil)) 0 (by omega) [0, _] (x5x 3 rfl (x5x 6 rfl Cov.nil)) (HE.row rfl (by rw [List.take_zero, show r2r [] = [] from rfl, List.append_nil]) HE.nil) rfl fun i γ2 hi => ?_
 try dsimp only [List.cons_append, List.nil_append]
 refine x8x fun K8 hK8 => ?_
 refine x7x x9x (by rfl) ?_
 refine x0x rfl ?_
 refine x1x rfl z5z rfl rfl w2w rfl rfl ?_
 refine x3x rfl w2w rfl rfl ?_
 refine v3v rfl w2w rfl ?_
 refine z0z rfl rfl rfl ?_
 refine y1y rfl (fun hc9 => ?_) (fun hc9 => ?_)
 ·try simp at hc9
  obtain ⟨e, he⟩ : ∃ e, w.events[i]? = some e := s8s (by omega)
  have hT := a2d (l := w.events.take i) (fun v h => a0f hW v (List.mem_of_mem_take h))
  rw [List.length_take] at hT
  refine y8y ?_
  refine hK8 _ _ ?_
  clear hK8 K8
  refine x8x fun K10 hK10 => ?_
  refine y7y ?_
  refine x7x x9x (by rfl) ?_
  refine x1x rfl z5z rfl rfl w2w rfl rfl ?_
  refine x3x rfl w2w rfl rfl ?_
  refine x0x rfl ?_
  refine v0v rfl rfl w2w rfl v1v rfl he ?_
  refine z6z (out := .agg (a0i e)) rfl v1v rfl ?_
  refine z7z rfl rfl rfl (a4s e) ?_
  refine x2x rfl ?_
  refine x7x x9x (by rfl) ?_
  refine x2x rfl ?_
  refine y7y ?_
  refine v9v (ι := Nat) (fun k γ3 => [(3, .ref 1 (γ3 1)), (8, .pv (.int .i64 (k : Int)))]) (fun k γ3 => [(1, ((γ3 1), .row 5 1 ((u6u (q2q w) ++ w4w (w.incs.length : Int) ++ u6u w.incs ++ w4w (w.versions.length : Int) ++ u6u w.versions ++ w4w (w.events.length : Int) ++ r2r (w.events.take i) ++ u6u ((evN e).take k)).map a1o)))]) (fun k => k ≤ 7) (fun k => 7 - k) (x5x 1 rfl (x5x 6 rfl (x5x 7 rfl Cov.nil))) (z2z 0 rfl (z2z 2 rfl HE.nil)) 0 (by omega) [0, _] (x5x 3 rfl (x5x 8 rfl Cov.nil)) (HE.row rfl (by rw [List.take_zero, show u6u [] = [] from rfl, List.append_nil]) HE.nil) rfl fun k γ3 hi => ?_
  try dsimp only [List.cons_append, List.nil_append]
  refine x8x fun K11 hK11 => ?_
  refine x7x x9x (by rfl) ?_
  refine x0x rfl ?_
  refine x0x rfl ?_
  refine v3v rfl u1u rfl ?_
  refine z0z rfl rfl rfl ?_
  refine y1y rfl (fun hc12 => ?_) (fun hc12 => ?_)
  rotate_left
  ·try simp at hc12
   have hk7 : (evN e).length = 7 := rfl
   obtain rfl : k = 7 := by omega
   rw [show (evN e).take 7 = evN e from rfl]
   refine v7v ?_
   refine hK10 _ _ ?_
   clear hK11 K11 hK10 K10
   refine y0y x9x (by rfl) ?_
   refine x0x rfl ?_
   refine a0j rfl rfl rfl ?_
   refine x2x rfl ?_
   exact ⟨i + 1, ⟨by omega, by omega⟩, [0, _], (x5x 3 rfl (Cov.cons' (t := 6) rfl (by rw [w0w (by omega) (by omega)]; rfl) Cov.nil)), (x5x 1 rfl Cov.nil), (HE.row rfl (by rw [r8r he, a8o, List.append_assoc (u6u (q2q w) ++ w4w (w.incs.length : Int) ++ u6u w.incs ++ w4w (w.versions.length : Int) ++ u6u w.versions ++ w4w (w.events.length : Int))]) HE.nil), (z2z 0 rfl (z2z 2 rfl HE.nil)), rfl⟩
  try simp at hc12
  have hU7 : (evN e).length = 7 := rfl
  obtain ⟨x, hx⟩ : ∃ x, (evN e)[k]? = some x := ⟨_, List.getElem?_eq_getElem (by show k < 7; omega)⟩
  have hU := p9p (l := (evN e).take k) (fun v h => a0f hW e (List.mem_of_getElem? he) v (List.mem_of_mem_take h))
  rw [List.length_take] at hU
  refine y8y ?_
  refine hK11 _ _ ?_
  clear hK11 K11
  refine x8x fun K13 hK13 => ?_
  refine y7y ?_
  refine y0y x9x (by rfl) ?_
  refine x0x rfl ?_
  refine x0x rfl ?_
  refine x0x rfl ?_
  refine v0v rfl rfl u1u rfl y5y rfl hx ?_
  refine z6z rfl y5y rfl ?_
  refine z1z [1] [_] (q4q (u6u (q2q w) ++ w4w (w.incs.length : Int) ++ u6u w.incs ++ w4w (w.versions.length : Int) ++ u6u w.versions ++ w4w (w.events.length : Int) ++ r2r (w.events.take i) ++ u6u ((evN e).take k)) x (a0f hW e (List.mem_of_getElem? he) x (List.mem_of_getElem? hx)) (by (simp only [List.length_append, List.length_take]; omega))) rfl rfl rfl (by decide) rfl rfl (by repeat (first | exact InH.nil | refine InH.cons rfl ?_)) (by (simp only [pI, y2y, y3y, v4v, gl, nx, v2v, Nat.beq]; rfl)) (by (simp only [pI, y2y, y3y, v4v, gl, nx, v2v, Nat.beq]; rfl)) ?_
  refine x2x rfl ?_
  refine hK13 _ _ ?_
  clear hK13 K13
  refine y0y x9x (by rfl) ?_
  refine x0x rfl ?_
  refine a0j rfl rfl rfl ?_
  refine x2x rfl ?_
  exact ⟨k + 1, ⟨by omega, by omega⟩, [0, _], (x5x 3 rfl (Cov.cons' (t := 8) rfl (by rw [w0w (by omega) (by omega)]; rfl) Cov.nil)), (x5x 1 rfl (x5x 6 rfl (x5x 7 rfl Cov.nil))), (HE.row rfl (by rw [r8r hx, a1f, List.append_assoc (u6u (q2q w) ++ w4w (w.incs.length : Int) ++ u6u w.incs ++ w4w (w.versions.length : Int) ++ u6u w.versions ++ w4w (w.events.length : Int) ++ r2r (w.events.take i))]) HE.nil), (z2z 0 rfl (z2z 2 rfl HE.nil)), rfl⟩
 try simp at hc9
 obtain rfl : i = w.events.length := by omega
 rw [List.take_length]
 refine v7v ?_
 refine hK7 _ _ ?_
 clear hK8 K8 hK7 K7
 refine x7x x9x (by rfl) ?_
 refine x0x rfl ?_
 refine x1x rfl z5z rfl rfl w5w rfl rfl ?_
 refine x3x rfl w5w rfl rfl ?_
 refine v3v rfl w5w rfl ?_
 refine z1z [1] [_] (q4q (u6u (q2q w) ++ w4w (w.incs.length : Int) ++ u6u w.incs ++ w4w (w.versions.length : Int) ++ u6u w.versions ++ w4w (w.events.length : Int) ++ r2r w.events) (w.outs.length : Int) ⟨by omega, by omega⟩ (by (simp only [List.length_append, List.length_take]; omega))) rfl rfl rfl (by decide) rfl rfl (by repeat (first | exact InH.nil | refine InH.cons rfl ?_)) (by (simp only [pI, y2y, y3y, v4v, gl, nx, v2v, Nat.beq]; rfl)) (by (simp only [pI, y2y, y3y, v4v, gl, nx, v2v, Nat.beq]; rfl)) ?_
 refine x2x rfl ?_
 refine x8x fun K14 hK14 => ?_
 refine x7x x9x (by rfl) ?_
 refine x2x rfl ?_
 refine y7y ?_
 refine v9v (ι := Nat) (fun i γ4 => [(3, .ref 1 (γ4 1)), (9, .pv (.int .i64 (i : Int)))]) (fun i γ4 => [(1, ((γ4 1), .row 5 1 ((u6u (q2q w) ++ w4w (w.incs.length : Int) ++ u6u w.incs ++ w4w (w.versions.length : Int) ++ u6u w.versions ++ w4w (w.events.length : Int) ++ r2r w.events ++ w4w (w.outs.length : Int) ++ r9r (w.outs.take i)).map a1o)))]) (fun i => i ≤ w.outs.length) (fun i => w.outs.length - i) (x5x 1 rfl Cov.nil) (z2z 0 rfl (z2z 2 rfl HE.nil)) 0 (by omega) [0, _] (x5x 3 rfl (x5x 9 rfl Cov.nil)) (HE.row rfl (by rw [List.take_zero, show r9r [] = [] from rfl, List.append_nil]) HE.nil) rfl fun i γ4 hi => ?_
 try dsimp only [List.cons_append, List.nil_append]
 refine x8x fun K15 hK15 => ?_
 refine x7x x9x (by rfl) ?_
 refine x0x rfl ?_
 refine x1x rfl z5z rfl rfl w5w rfl rfl ?_
 refine x3x rfl w5w rfl rfl ?_
 refine v3v rfl w5w rfl ?_
 refine z0z rfl rfl rfl ?_
 refine y1y rfl (fun hc16 => ?_) (fun hc16 => ?_)
 rotate_left
 ·try simp at hc16
  obtain rfl : i = w.outs.length := by omega
  rw [List.take_length]
  refine v7v ?_
  refine hK14 _ _ ?_
  clear hK15 K15 hK14 K14
  refine x7x x9x (by rfl) ?_
  refine x0x rfl ?_
  refine x2x rfl ?_
  refine y6y ⟨.inr rfl, ?_⟩
  (rw [a8l hW]; exact ⟨_, _, rfl, .ref rfl (Le.ow_map (f := a1o) _ (fun _ => rfl) (fun _ => rfl)) .nil⟩)
 try simp at hc16
 obtain ⟨o, ho⟩ : ∃ o, w.outs[i]? = some o := s8s (by omega)
 have hT := a2e (l := w.outs.take i) (fun v h => a0g hW v (List.mem_of_mem_take h))
 rw [List.length_take] at hT
 refine y8y ?_
 refine hK15 _ _ ?_
 clear hK15 K15
 refine x8x fun K17 hK17 => ?_
 refine y7y ?_
 refine x7x x9x (by rfl) ?_
 refine x1x rfl z5z rfl rfl w5w rfl rfl ?_
 refine x3x rfl w5w rfl rfl ?_
 refine x0x rfl ?_
 refine v0v rfl rfl w5w rfl v8v rfl ho ?_
 refine z6z (out := .agg (a2c o)) rfl v8v rfl ?_
 refine z7z rfl rfl rfl (a7u o) ?_
 refine x2x rfl ?_
 refine x7x x9x (by rfl) ?_
 refine x2x rfl ?_
 refine y7y ?_
 refine v9v (ι := Nat) (fun k γ5 => [(3, .ref 1 (γ5 1)), (11, .pv (.int .i64 (k : Int)))]) (fun k γ5 => [(1, ((γ5 1), .row 5 1 ((u6u (q2q w) ++ w4w (w.incs.length : Int) ++ u6u w.incs ++ w4w (w.versions.length : Int) ++ u6u w.versions ++ w4w (w.events.length : Int) ++ r2r w.events ++ w4w (w.outs.length : Int) ++ r9r (w.outs.take i) ++ u6u ((ouL o).take k)).map a1o)))]) (fun k => k ≤ 5) (fun k => 5 - k) (x5x 1 rfl (x5x 9 rfl (x5x 10 rfl Cov.nil))) (z2z 0 rfl (z2z 2 rfl HE.nil)) 0 (by omega) [0, _] (x5x 3 rfl (x5x 11 rfl Cov.nil)) (HE.row rfl (by rw [List.take_zero, show u6u [] = [] from rfl, List.append_nil]) HE.nil) rfl fun k γ5 hi => ?_
 try dsimp only [List.cons_append, List.nil_append]
 refine x8x fun K18 hK18 => ?_
 refine x7x x9x (by rfl) ?_
 refine x0x rfl ?_
 refine x0x rfl ?_
 refine v3v rfl u1u rfl ?_
 refine z0z rfl rfl rfl ?_
 refine y1y rfl (fun hc19 => ?_) (fun hc19 => ?_)
 rotate_left
 ·try simp at hc19
  have hk5 : (ouL o).length = 5 := rfl
  obtain rfl : k = 5 := by omega
  rw [show (ouL o).take 5 = ouL o from rfl]
  refine v7v ?_
  refine hK17 _ _ ?_
  clear hK18 K18 hK17 K17
  refine y0y x9x (by rfl) ?_
  refine x0x rfl ?_
  refine a0j rfl rfl rfl ?_
  refine x2x rfl ?_
  exact ⟨i + 1, ⟨by omega, by omega⟩, [0, _], (x5x 3 rfl (Cov.cons' (t := 9) rfl (by rw [w0w (by omega) (by omega)]; rfl) Cov.nil)), (x5x 1 rfl Cov.nil), (HE.row rfl (by rw [r8r ho, a8p, List.append_assoc (u6u (q2q w) ++ w4w (w.incs.length : Int) ++ u6u w.incs ++ w4w (w.versions.length : Int) ++ u6u w.versions ++ w4w (w.events.length : Int) ++ r2r w.events ++ w4w (w.outs.length : Int))]) HE.nil), (z2z 0 rfl (z2z 2 rfl HE.nil)), rfl⟩
 try simp at hc19
 have hU5 : (ouL o).length = 5 := rfl
 obtain ⟨x, hx⟩ : ∃ x, (ouL o)[k]? = some x := ⟨_, List.getElem?_eq_getElem (by show k < 5; omega)⟩
 have hU := p9p (l := (ouL o).take k) (fun v h => a0g hW o (List.mem_of_getElem? ho) v (List.mem_of_mem_take h))
 rw [List.length_take] at hU
 refine y8y ?_
 refine hK18 _ _ ?_
 clear hK18 K18
 refine x8x fun K20 hK20 => ?_
 refine y7y ?_
 refine y0y x9x (by rfl) ?_
 refine x0x rfl ?_
 refine x0x rfl ?_
 refine x0x rfl ?_
 refine v0v rfl rfl u1u rfl y5y rfl hx ?_
 refine z6z rfl y5y rfl ?_
 refine z1z [1] [_] (q4q (u6u (q2q w) ++ w4w (w.incs.length : Int) ++ u6u w.incs ++ w4w (w.versions.length : Int) ++ u6u w.versions ++ w4w (w.events.length : Int) ++ r2r w.events ++ w4w (w.outs.length : Int) ++ r9r (w.outs.take i) ++ u6u ((ouL o).take k)) x (a0g hW o (List.mem_of_getElem? ho) x (List.mem_of_getElem? hx)) (by (simp only [List.length_append, List.length_take]; omega))) rfl rfl rfl (by decide) rfl rfl (by repeat (first | exact InH.nil | refine InH.cons rfl ?_)) (by (simp only [pI, y2y, y3y, v4v, gl, nx, v2v, Nat.beq]; rfl)) (by (simp only [pI, y2y, y3y, v4v, gl, nx, v2v, Nat.beq]; rfl)) ?_
 refine x2x rfl ?_
 refine hK20 _ _ ?_
 clear hK20 K20
 refine y0y x9x (by rfl) ?_
 refine x0x rfl ?_
 refine a0j rfl rfl rfl ?_
 refine x2x rfl ?_
 exact ⟨k + 1, ⟨by omega, by omega⟩, [0, _], (x5x 3 rfl (Cov.cons' (t := 11) rfl (by rw [w0w (by omega) (by omega)]; rfl) Cov.nil)), (x5x 1 rfl (x5x 9 rfl (x5x 10 rfl Cov.nil))), (HE.row rfl (by rw [r8r hx, a1f, List.append_assoc (u6u (q2q w) ++ w4w (w.incs.length : Int) ++ u6u w.incs ++ w4w (w.versions.length : Int) ++ u6u w.versions ++ w4w (w.events.length : Int) ++ r2r w.events ++ w4w (w.outs.length : Int) ++ r9r (w.outs.take i))]) HE.nil), (z2z 0 rfl (z2z 2 rfl HE.nil)), rfl⟩
theorem a8q (c : Bool) (w : Wo) : Meth Try.prog 18 1 [] [.agg (a5s c w)] [(0, (0, .dead))] (.ref 0 0) [(0, (0, .row 5 1 ((a3u w).map a1o)))] := by
 refine p6p x9x (fn := Try.f18) (by kernel_rfl) (by kernel_rfl) rfl (O0 := [.ref 0 0]) 1 2 (u3u rfl) (by rfl) (by repeat (first | exact BndH.nil | refine BndH.dead ?_)) (by repeat (first | exact BndH.nil | refine BndH.row (a0e fun _ => rfl) ?_)) (by rfl) fun γ => ?_
 show Ex Try.prog _ _ [(0, .agg (a5s c w))] [(0, ((γ 0), .dead)), (2, (0, .dead)), (1, (0, .dead))] _
 refine x7x x9x (by rfl) ?_
 refine r5r (id := 1) rfl rfl rfl ?_
 refine x2x rfl ?_
 refine x7x x9x (by rfl) ?_
 refine a1x (id := 0) v6v rfl a0o rfl ?_
 refine x2x rfl ?_
 refine x8x fun K1 hK1 => ?_
 refine x7x x9x (by rfl) ?_
 refine z3z rfl z5z rfl rfl rfl ?_
 refine z7z rfl rfl rfl (a7t ..) ?_
 refine s6s rfl ?_
 refine y1y rfl (fun hc2 => ?_) (fun hc2 => ?_)
 ·try simp at hc2
  have hX : ¬ s9s w := by simpa using hc2
  refine x7x x9x (by rfl) ?_
  refine x0x rfl ?_
  refine x2x rfl ?_
  refine y6y ?_
  (rw [a8m hX]; exact ⟨.inr rfl, [_], rfl, rfl, HE.row rfl rfl HE.nil⟩)
 try simp at hc2
 have hW : s9s w := by simpa using hc2
 have k1 := a2v hW.2.1
 have k2 := a2v hW.2.2.1
 have k3 := (a0n hW.2.2.2.1).1
 have k4 := (a0n hW.2.2.2.2).1
 have b1 := p9p (a0q hW)
 have b0 : (q2q w).length = 7 := rfl
 have b2 : (w4w (w.incs.length : Int)).length ≤ 2 := r4r ⟨by omega, by omega⟩
 have b3 : (w4w (w.versions.length : Int)).length ≤ 2 := r4r ⟨by omega, by omega⟩
 have b4 : (w4w (w.events.length : Int)).length ≤ 2 := r4r ⟨by omega, by omega⟩
 have b5 : (w4w (w.outs.length : Int)).length ≤ 2 := r4r ⟨by omega, by omega⟩
 have b6 := p9p (a0l hW.2.1)
 have b7 := p9p (a0l hW.2.2.1)
 have b8 := a2d (a0f hW)
 have b9 := a2e (a0g hW)
 refine y8y ?_
 refine hK1 _ _ ?_
 clear hK1 K1
 refine x7x x9x (by rfl) ?_
 refine x1x rfl z5z rfl rfl y5y rfl rfl ?_
 refine x3x rfl y5y rfl rfl ?_
 refine x1x rfl z5z rfl rfl y5y rfl rfl ?_
 refine x3x rfl y5y rfl rfl ?_
 refine x1x rfl z5z rfl rfl y5y rfl rfl ?_
 refine x3x rfl y5y rfl rfl ?_
 refine x1x rfl z5z rfl rfl y5y rfl rfl ?_
 refine x3x rfl y5y rfl rfl ?_
 refine x1x rfl z5z rfl rfl y5y rfl rfl ?_
 refine x3x rfl y5y rfl rfl ?_
 refine x1x rfl z5z rfl rfl y5y rfl rfl ?_
 refine x3x rfl y5y rfl rfl ?_
 refine x1x rfl z5z rfl rfl y5y rfl rfl ?_
 refine x3x rfl y5y rfl rfl ?_
 refine u0u (id := 2) u1u rfl y5y rfl rfl rfl rfl (.val rfl rfl (.val rfl rfl (.val rfl rfl (.val rfl rfl (.val rfl rfl (.val rfl rfl (.val rfl rfl .nil))))))) rfl (u3u rfl) (u3u rfl) (u3u rfl) rfl rfl ?_
 refine x2x rfl ?_
 refine x8x fun K3 hK3 => ?_
 refine x7x x9x (by rfl) ?_
 refine x2x rfl ?_
 refine y7y ?_
 refine v9v (ι := Nat) (fun i γ1 => [(3, .ref 0 (γ1 0)), (5, .pv (.int .i64 (i : Int)))]) (fun i γ1 => [(0, ((γ1 0), .row 5 1 ((u6u ((q2q w).take i)).map a1o)))]) (fun i => i ≤ 7) (fun i => 7 - i) (x5x 1 rfl (x5x 4 rfl Cov.nil)) (z2z 1 rfl (z2z 2 rfl HE.nil)) 0 (by omega) [_] (x5x 3 rfl (x5x 5 rfl Cov.nil)) (HE.row rfl (by rw [List.take_zero]; rfl) HE.nil) rfl fun i γ1 hi => ?_
 try dsimp only [List.cons_append, List.nil_append]
 refine x8x fun K4 hK4 => ?_
 refine x7x x9x (by rfl) ?_
 refine x0x rfl ?_
 refine x0x rfl ?_
 refine a2o (n := 7) rfl u1u rfl rfl rfl ?_
 refine z0z rfl rfl rfl ?_
 refine y1y rfl (fun hc5 => ?_) (fun hc5 => ?_)
 ·try simp at hc5
  obtain ⟨x, hx⟩ : ∃ x, (q2q w)[i]? = some x := ⟨_, List.getElem?_eq_getElem (by show i < 7; omega)⟩
  have hT := p9p (l := (q2q w).take i) (fun v h => a0q hW v (List.mem_of_mem_take h))
  rw [List.length_take] at hT
  refine y8y ?_
  refine hK4 _ _ ?_
  clear hK4 K4
  refine x8x fun K6 hK6 => ?_
  refine y7y ?_
  refine y0y x9x (by rfl) ?_
  refine x0x rfl ?_
  refine x0x rfl ?_
  refine x0x rfl ?_
  refine w6w (f := a2m) (l := q2q w) (j := i) rfl rfl u1u rfl y5y rfl rfl (by show i < 7; omega) ?_
  refine w8w (f := a2m) (l := q2q w) rfl y5y rfl hx rfl ?_
  refine z1z [0] [_] (q4q (u6u ((q2q w).take i)) x (a0q hW x (List.mem_of_getElem? hx)) (by omega)) rfl rfl rfl (by decide) rfl rfl (by repeat (first | exact InH.nil | refine InH.cons rfl ?_)) (by (simp only [pI, y2y, y3y, v4v, gl, nx, v2v, Nat.beq]; rfl)) (by (simp only [pI, y2y, y3y, v4v, gl, nx, v2v, Nat.beq]; rfl)) ?_
  refine x2x rfl ?_
  refine hK6 _ _ ?_
  clear hK6 K6
  refine y0y x9x (by rfl) ?_
  refine x0x rfl ?_
  refine a0j rfl rfl rfl ?_
  refine x2x rfl ?_
  exact ⟨i + 1, ⟨by omega, by omega⟩, [_], (x5x 3 rfl (Cov.cons' (t := 5) rfl (by rw [w0w (by omega) (by omega)]; rfl) Cov.nil)), (x5x 1 rfl (x5x 4 rfl Cov.nil)), (HE.row rfl (by rw [r8r hx, a1f]) HE.nil), (z2z 1 rfl (z2z 2 rfl HE.nil)), rfl⟩
 try simp at hc5
 obtain rfl : i = 7 := by omega
 rw [show (q2q w).take 7 = q2q w from rfl]
 refine v7v ?_
 refine hK3 _ _ ?_
 clear hK4 K4 hK3 K3
 refine q5q x9x s7s (by rfl) ?_
 refine x0x rfl ?_
 refine x1x rfl z5z rfl rfl u1u rfl rfl ?_
 refine x3x rfl u1u rfl rfl ?_
 refine z1z [0] [_] (a1s c (u6u (q2q w)) w.incs (a0l hW.2.1) (by omega) (by omega)) rfl rfl rfl (by decide) rfl rfl (by repeat (first | exact InH.nil | refine InH.cons rfl ?_)) (by (simp only [pI, y2y, y3y, v4v, gl, nx, v2v, Nat.beq]; rfl)) (by (simp only [pI, y2y, y3y, v4v, gl, nx, v2v, Nat.beq]; rfl)) ?_
 refine x1x rfl z5z rfl rfl u1u rfl rfl ?_
 refine x3x rfl u1u rfl rfl ?_
 refine z1z [0] [_] (a1s c (u6u (q2q w) ++ w4w (w.incs.length : Int) ++ u6u w.incs) w.versions (a0l hW.2.2.1) (by omega) (by (simp only [List.length_append, List.length_take]; omega))) rfl rfl rfl (by decide) rfl rfl (by repeat (first | exact InH.nil | refine InH.cons rfl ?_)) (by (simp only [pI, y2y, y3y, v4v, gl, nx, v2v, Nat.beq]; rfl)) (by (simp only [pI, y2y, y3y, v4v, gl, nx, v2v, Nat.beq]; rfl)) ?_
 refine x2x rfl ?_
 refine ⟨by kernel_rfl, ?_⟩
 refine x7x x9x (by rfl) ?_
 refine x0x rfl ?_
 refine x1x rfl z5z rfl rfl w2w rfl rfl ?_
 refine x3x rfl w2w rfl rfl ?_
 refine v3v rfl w2w rfl ?_
 refine z1z [0] [_] (q4q (u6u (q2q w) ++ w4w (w.incs.length : Int) ++ u6u w.incs ++ w4w (w.versions.length : Int) ++ u6u w.versions) (w.events.length : Int) ⟨by omega, by omega⟩ (by (simp only [List.length_append, List.length_take]; omega))) rfl rfl rfl (by decide) rfl rfl (by repeat (first | exact InH.nil | refine InH.cons rfl ?_)) (by (simp only [pI, y2y, y3y, v4v, gl, nx, v2v, Nat.beq]; rfl)) (by (simp only [pI, y2y, y3y, v4v, gl, nx, v2v, Nat.beq]; rfl)) ?_
 refine x2x rfl ?_
 refine x8x fun K7 hK7 => ?_
 refine x7x x9x (by rfl) ?_
 refine x2x rfl ?_
 refine y7y ?_
 refine v9v (ι := Nat) (fun i γ2 => [(3, .ref 0 (γ2 0)), (6, .pv (.int .i64 (i : Int)))]) (fun i γ2 => [(0, ((γ2 0), .row 5 1 ((u6u (q2q w) ++ w4w (w.incs.length : Int) ++ u6u w.incs ++ w4w (w.versions.length : Int) ++ u6u w.versions ++ w4w (w.events.length : Int) ++ r2r (w.events.take i)).map a1o)))]) (fun i => i ≤ w.events.length) (fun i => w.events.length - i) (x5x 1 rfl Cov.nil) (z2z 1 rfl (z2z 2 rfl HE.nil)) 0 (by omega) [_] (x5x 3 rfl (x5x 6 rfl Cov.nil)) (HE.row rfl (by rw [List.take_zero, show r2r [] = [] from rfl, List.append_nil]) HE.nil) rfl fun i γ2 hi => ?_
 try dsimp only [List.cons_append, List.nil_append]
 refine x8x fun K8 hK8 => ?_
 refine x7x x9x (by rfl) ?_
 refine x0x rfl ?_
 refine x1x rfl z5z rfl rfl w2w rfl rfl ?_
 refine x3x rfl w2w rfl rfl ?_
 refine v3v rfl w2w rfl ?_
 refine z0z rfl rfl rfl ?_
 refine y1y rfl (fun hc9 => ?_) (fun hc9 => ?_)
 ·try simp at hc9
  obtain ⟨e, he⟩ : ∃ e, w.events[i]? = some e := s8s (by omega)
  have hT := a2d (l := w.events.take i) (fun v h => a0f hW v (List.mem_of_mem_take h))
  rw [List.length_take] at hT
  refine y8y ?_
  refine hK8 _ _ ?_
  clear hK8 K8
  refine x8x fun K10 hK10 => ?_
  refine y7y ?_
  refine x7x x9x (by rfl) ?_
  refine x1x rfl z5z rfl rfl w2w rfl rfl ?_
  refine x3x rfl w2w rfl rfl ?_
  refine x0x rfl ?_
  refine v0v rfl rfl w2w rfl v1v rfl he ?_
  refine z6z (out := .agg (a0i e)) rfl v1v rfl ?_
  refine z7z rfl rfl rfl (a4s e) ?_
  refine x2x rfl ?_
  refine x7x x9x (by rfl) ?_
  refine x2x rfl ?_
  refine y7y ?_
  refine v9v (ι := Nat) (fun k γ3 => [(3, .ref 0 (γ3 0)), (8, .pv (.int .i64 (k : Int)))]) (fun k γ3 => [(0, ((γ3 0), .row 5 1 ((u6u (q2q w) ++ w4w (w.incs.length : Int) ++ u6u w.incs ++ w4w (w.versions.length : Int) ++ u6u w.versions ++ w4w (w.events.length : Int) ++ r2r (w.events.take i) ++ u6u ((evN e).take k)).map a1o)))]) (fun k => k ≤ 7) (fun k => 7 - k) (x5x 1 rfl (x5x 6 rfl (x5x 7 rfl Cov.nil))) (z2z 1 rfl (z2z 2 rfl HE.nil)) 0 (by omega) [_] (x5x 3 rfl (x5x 8 rfl Cov.nil)) (HE.row rfl (by rw [List.take_zero, show u6u [] = [] from rfl, List.append_nil]) HE.nil) rfl fun k γ3 hi => ?_
  try dsimp only [List.cons_append, List.nil_append]
  refine x8x fun K11 hK11 => ?_
  refine x7x x9x (by rfl) ?_
  refine x0x rfl ?_
  refine x0x rfl ?_
  refine v3v rfl u1u rfl ?_
  refine z0z rfl rfl rfl ?_
  refine y1y rfl (fun hc12 => ?_) (fun hc12 => ?_)
  rotate_left
  ·try simp at hc12
   have hk7 : (evN e).length = 7 := rfl
   obtain rfl : k = 7 := by omega
   rw [show (evN e).take 7 = evN e from rfl]
   refine v7v ?_
   refine hK10 _ _ ?_
   clear hK11 K11 hK10 K10
   refine y0y x9x (by rfl) ?_
   refine x0x rfl ?_
   refine a0j rfl rfl rfl ?_
   refine x2x rfl ?_
   exact ⟨i + 1, ⟨by omega, by omega⟩, [_], (x5x 3 rfl (Cov.cons' (t := 6) rfl (by rw [w0w (by omega) (by omega)]; rfl) Cov.nil)), (x5x 1 rfl Cov.nil), (HE.row rfl (by rw [r8r he, a8o, List.append_assoc (u6u (q2q w) ++ w4w (w.incs.length : Int) ++ u6u w.incs ++ w4w (w.versions.length : Int) ++ u6u w.versions ++ w4w (w.events.length : Int))]) HE.nil), (z2z 1 rfl (z2z 2 rfl HE.nil)), rfl⟩
  try simp at hc12
  have hU7 : (evN e).length = 7 := rfl
  obtain ⟨x, hx⟩ : ∃ x, (evN e)[k]? = some x := ⟨_, List.getElem?_eq_getElem (by show k < 7; omega)⟩
  have hU := p9p (l := (evN e).take k) (fun v h => a0f hW e (List.mem_of_getElem? he) v (List.mem_of_mem_take h))
  rw [List.length_take] at hU
  refine y8y ?_
  refine hK11 _ _ ?_
  clear hK11 K11
  refine x8x fun K13 hK13 => ?_
  refine y7y ?_
  refine y0y x9x (by rfl) ?_
  refine x0x rfl ?_
  refine x0x rfl ?_
  refine x0x rfl ?_
  refine v0v rfl rfl u1u rfl y5y rfl hx ?_
  refine z6z rfl y5y rfl ?_
  refine z1z [0] [_] (q4q (u6u (q2q w) ++ w4w (w.incs.length : Int) ++ u6u w.incs ++ w4w (w.versions.length : Int) ++ u6u w.versions ++ w4w (w.events.length : Int) ++ r2r (w.events.take i) ++ u6u ((evN e).take k)) x (a0f hW e (List.mem_of_getElem? he) x (List.mem_of_getElem? hx)) (by (simp only [List.length_append, List.length_take]; omega))) rfl rfl rfl (by decide) rfl rfl (by repeat (first | exact InH.nil | refine InH.cons rfl ?_)) (by (simp only [pI, y2y, y3y, v4v, gl, nx, v2v, Nat.beq]; rfl)) (by (simp only [pI, y2y, y3y, v4v, gl, nx, v2v, Nat.beq]; rfl)) ?_
  refine x2x rfl ?_
  refine hK13 _ _ ?_
  clear hK13 K13
  refine y0y x9x (by rfl) ?_
  refine x0x rfl ?_
  refine a0j rfl rfl rfl ?_
  refine x2x rfl ?_
  exact ⟨k + 1, ⟨by omega, by omega⟩, [_], (x5x 3 rfl (Cov.cons' (t := 8) rfl (by rw [w0w (by omega) (by omega)]; rfl) Cov.nil)), (x5x 1 rfl (x5x 6 rfl (x5x 7 rfl Cov.nil))), (HE.row rfl (by rw [r8r hx, a1f, List.append_assoc (u6u (q2q w) ++ w4w (w.incs.length : Int) ++ u6u w.incs ++ w4w (w.versions.length : Int) ++ u6u w.versions ++ w4w (w.events.length : Int) ++ r2r (w.events.take i))]) HE.nil), (z2z 1 rfl (z2z 2 rfl HE.nil)), rfl⟩
 try simp at hc9
 obtain rfl : i = w.events.length := by omega
 rw [List.take_length]
 refine v7v ?_
 refine hK7 _ _ ?_
 clear hK8 K8 hK7 K7
 refine x7x x9x (by rfl) ?_
 refine x0x rfl ?_
 refine x1x rfl z5z rfl rfl w5w rfl rfl ?_
 refine x3x rfl w5w rfl rfl ?_
 refine v3v rfl w5w rfl ?_
 refine z1z [0] [_] (q4q (u6u (q2q w) ++ w4w (w.incs.length : Int) ++ u6u w.incs ++ w4w (w.versions.length : Int) ++ u6u w.versions ++ w4w (w.events.length : Int) ++ r2r w.events) (w.outs.length : Int) ⟨by omega, by omega⟩ (by (simp only [List.length_append, List.length_take]; omega))) rfl rfl rfl (by decide) rfl rfl (by repeat (first | exact InH.nil | refine InH.cons rfl ?_)) (by (simp only [pI, y2y, y3y, v4v, gl, nx, v2v, Nat.beq]; rfl)) (by (simp only [pI, y2y, y3y, v4v, gl, nx, v2v, Nat.beq]; rfl)) ?_
 refine x2x rfl ?_
 refine x8x fun K14 hK14 => ?_
 refine x7x x9x (by rfl) ?_
 refine x2x rfl ?_
 refine y7y ?_
 refine v9v (ι := Nat) (fun i γ4 => [(3, .ref 0 (γ4 0)), (9, .pv (.int .i64 (i : Int)))]) (fun i γ4 => [(0, ((γ4 0), .row 5 1 ((u6u (q2q w) ++ w4w (w.incs.length : Int) ++ u6u w.incs ++ w4w (w.versions.length : Int) ++ u6u w.versions ++ w4w (w.events.length : Int) ++ r2r w.events ++ w4w (w.outs.length : Int) ++ r9r (w.outs.take i)).map a1o)))]) (fun i => i ≤ w.outs.length) (fun i => w.outs.length - i) (x5x 1 rfl Cov.nil) (z2z 1 rfl (z2z 2 rfl HE.nil)) 0 (by omega) [_] (x5x 3 rfl (x5x 9 rfl Cov.nil)) (HE.row rfl (by rw [List.take_zero, show r9r [] = [] from rfl, List.append_nil]) HE.nil) rfl fun i γ4 hi => ?_
 try dsimp only [List.cons_append, List.nil_append]
 refine x8x fun K15 hK15 => ?_
 refine x7x x9x (by rfl) ?_
 refine x0x rfl ?_
 refine x1x rfl z5z rfl rfl w5w rfl rfl ?_
 refine x3x rfl w5w rfl rfl ?_
 refine v3v rfl w5w rfl ?_
 refine z0z rfl rfl rfl ?_
 refine y1y rfl (fun hc16 => ?_) (fun hc16 => ?_)
 rotate_left
 ·try simp at hc16
  obtain rfl : i = w.outs.length := by omega
  rw [List.take_length]
  refine v7v ?_
  refine hK14 _ _ ?_
  clear hK15 K15 hK14 K14
  refine x7x x9x (by rfl) ?_
  refine x0x rfl ?_
  refine x2x rfl ?_
  refine y6y ?_
  (rw [a8l hW]; exact ⟨.inr rfl, [_], rfl, rfl, HE.row rfl rfl HE.nil⟩)
 try simp at hc16
 obtain ⟨o, ho⟩ : ∃ o, w.outs[i]? = some o := s8s (by omega)
 have hT := a2e (l := w.outs.take i) (fun v h => a0g hW v (List.mem_of_mem_take h))
 rw [List.length_take] at hT
 refine y8y ?_
 refine hK15 _ _ ?_
 clear hK15 K15
 refine x8x fun K17 hK17 => ?_
 refine y7y ?_
 refine x7x x9x (by rfl) ?_
 refine x1x rfl z5z rfl rfl w5w rfl rfl ?_
 refine x3x rfl w5w rfl rfl ?_
 refine x0x rfl ?_
 refine v0v rfl rfl w5w rfl v8v rfl ho ?_
 refine z6z (out := .agg (a2c o)) rfl v8v rfl ?_
 refine z7z rfl rfl rfl (a7u o) ?_
 refine x2x rfl ?_
 refine x7x x9x (by rfl) ?_
 refine x2x rfl ?_
 refine y7y ?_
 refine v9v (ι := Nat) (fun k γ5 => [(3, .ref 0 (γ5 0)), (11, .pv (.int .i64 (k : Int)))]) (fun k γ5 => [(0, ((γ5 0), .row 5 1 ((u6u (q2q w) ++ w4w (w.incs.length : Int) ++ u6u w.incs ++ w4w (w.versions.length : Int) ++ u6u w.versions ++ w4w (w.events.length : Int) ++ r2r w.events ++ w4w (w.outs.length : Int) ++ r9r (w.outs.take i) ++ u6u ((ouL o).take k)).map a1o)))]) (fun k => k ≤ 5) (fun k => 5 - k) (x5x 1 rfl (x5x 9 rfl (x5x 10 rfl Cov.nil))) (z2z 1 rfl (z2z 2 rfl HE.nil)) 0 (by omega) [_] (x5x 3 rfl (x5x 11 rfl Cov.nil)) (HE.row rfl (by rw [List.take_zero, show u6u [] = [] from rfl, List.append_nil]) HE.nil) rfl fun k γ5 hi => ?_
 try dsimp only [List.cons_append, List.nil_append]
 refine x8x fun K18 hK18 => ?_
 refine x7x x9x (by rfl) ?_
 refine x0x rfl ?_
 refine x0x rfl ?_
 refine v3v rfl u1u rfl ?_
 refine z0z rfl rfl rfl ?_
 refine y1y rfl (fun hc19 => ?_) (fun hc19 => ?_)
 rotate_left
 ·try simp at hc19
  have hk5 : (ouL o).length = 5 := rfl
  obtain rfl : k = 5 := by omega
  rw [show (ouL o).take 5 = ouL o from rfl]
  refine v7v ?_
  refine hK17 _ _ ?_
  clear hK18 K18 hK17 K17
  refine y0y x9x (by rfl) ?_
  refine x0x rfl ?_
  refine a0j rfl rfl rfl ?_
  refine x2x rfl ?_
  exact ⟨i + 1, ⟨by omega, by omega⟩, [_], (x5x 3 rfl (Cov.cons' (t := 9) rfl (by rw [w0w (by omega) (by omega)]; rfl) Cov.nil)), (x5x 1 rfl Cov.nil), (HE.row rfl (by rw [r8r ho, a8p, List.append_assoc (u6u (q2q w) ++ w4w (w.incs.length : Int) ++ u6u w.incs ++ w4w (w.versions.length : Int) ++ u6u w.versions ++ w4w (w.events.length : Int) ++ r2r w.events ++ w4w (w.outs.length : Int))]) HE.nil), (z2z 1 rfl (z2z 2 rfl HE.nil)), rfl⟩
 try simp at hc19
 have hU5 : (ouL o).length = 5 := rfl
 obtain ⟨x, hx⟩ : ∃ x, (ouL o)[k]? = some x := ⟨_, List.getElem?_eq_getElem (by show k < 5; omega)⟩
 have hU := p9p (l := (ouL o).take k) (fun v h => a0g hW o (List.mem_of_getElem? ho) v (List.mem_of_mem_take h))
 rw [List.length_take] at hU
 refine y8y ?_
 refine hK18 _ _ ?_
 clear hK18 K18
 refine x8x fun K20 hK20 => ?_
 refine y7y ?_
 refine y0y x9x (by rfl) ?_
 refine x0x rfl ?_
 refine x0x rfl ?_
 refine x0x rfl ?_
 refine v0v rfl rfl u1u rfl y5y rfl hx ?_
 refine z6z rfl y5y rfl ?_
 refine z1z [0] [_] (q4q (u6u (q2q w) ++ w4w (w.incs.length : Int) ++ u6u w.incs ++ w4w (w.versions.length : Int) ++ u6u w.versions ++ w4w (w.events.length : Int) ++ r2r w.events ++ w4w (w.outs.length : Int) ++ r9r (w.outs.take i) ++ u6u ((ouL o).take k)) x (a0g hW o (List.mem_of_getElem? ho) x (List.mem_of_getElem? hx)) (by (simp only [List.length_append, List.length_take]; omega))) rfl rfl rfl (by decide) rfl rfl (by repeat (first | exact InH.nil | refine InH.cons rfl ?_)) (by (simp only [pI, y2y, y3y, v4v, gl, nx, v2v, Nat.beq]; rfl)) (by (simp only [pI, y2y, y3y, v4v, gl, nx, v2v, Nat.beq]; rfl)) ?_
 refine x2x rfl ?_
 refine hK20 _ _ ?_
 clear hK20 K20
 refine y0y x9x (by rfl) ?_
 refine x0x rfl ?_
 refine a0j rfl rfl rfl ?_
 refine x2x rfl ?_
 exact ⟨k + 1, ⟨by omega, by omega⟩, [_], (x5x 3 rfl (Cov.cons' (t := 11) rfl (by rw [w0w (by omega) (by omega)]; rfl) Cov.nil)), (x5x 1 rfl (x5x 9 rfl (x5x 10 rfl Cov.nil))), (HE.row rfl (by rw [r8r hx, a1f, List.append_assoc (u6u (q2q w) ++ w4w (w.incs.length : Int) ++ u6u w.incs ++ w4w (w.versions.length : Int) ++ u6u w.versions ++ w4w (w.events.length : Int) ++ r2r w.events ++ w4w (w.outs.length : Int) ++ r9r (w.outs.take i))]) HE.nil), (z2z 1 rfl (z2z 2 rfl HE.nil)), rfl⟩
end
section
theorem c1t (w : Wo) : (a3u w).length ≤ 5000 := by
 by_cases h : s9s w
 ·rw [a8l h]
  have k1 := a2v h.2.1
  have k2 := a2v h.2.2.1
  have k3 := (a0n h.2.2.2.1).1
  have k4 := (a0n h.2.2.2.2).1
  have b1 := p9p (a0q h)
  have b0 : (q2q w).length = 7 := rfl
  have b2 : (w4w (w.incs.length : Int)).length ≤ 2 := r4r ⟨by omega, by omega⟩
  have b3 : (w4w (w.versions.length : Int)).length ≤ 2 := r4r ⟨by omega, by omega⟩
  have b4 : (w4w (w.events.length : Int)).length ≤ 2 := r4r ⟨by omega, by omega⟩
  have b5 : (w4w (w.outs.length : Int)).length ≤ 2 := r4r ⟨by omega, by omega⟩
  have b6 := p9p (a0l h.2.1)
  have b7 := p9p (a0l h.2.2.1)
  have b8 := a2d (a0f h)
  have b9 := a2e (a0g h)
  simp only [a6o, List.length_append]
  omega
 ·rw [a8m h]; exact Nat.zero_le _
variable {bs : List Nat}
theorem c1u (h : (q9q bs).2 = false) : (q9q bs).1.kind = 0 := by
 unfold q9q at h ⊢
 by_cases hg : b1a bs
 ·rw [if_pos hg] at h; cases h
 ·rw [if_neg hg]; rfl
theorem b8z (h : (q9q bs).2 = true) : s9s (q9q bs).1 ∧ a3u (q9q bs).1 = bs := by
 unfold q9q at h ⊢
 by_cases hg : b1a bs
 ·rw [if_pos hg]
  exact ⟨Classical.byContradiction fun hn => hg.2.1 (by have := hg.2.2; rw [a8m hn] at this; exact this.symm), hg.2.2⟩
 ·rw [if_neg hg] at h; cases h
end
section
theorem a4t (bs : List Nat) (hbs : ∀ b ∈ bs, b < 256)  : MethE Try.prog 5 0 [v5v true bs] [] (ι := List Nat) (fun S' => (∀ b ∈ S', b < 256) ∧ S'.length ≤ 20000) (fun S' => []) (fun S' => v5v true S') (fun S' => []) := by
 refine a1q x9x (fn := Try.f5) (by kernel_rfl) (by kernel_rfl) rfl (ι := List Nat) (OF := fun S' => [v5v true S']) 0 9 (u3u rfl) (by rfl) (fun _ _ => by rfl) (by repeat (exact BndH.nil)) (fun _ _ => (by repeat (exact BndH.nil))) (fun _ _ => by rfl) fun γ => ?_
 show Ex Try.prog _ _ [(0, v5v true bs)] [(8, (0, .dead)), (7, (0, .dead)), (6, (0, .dead)), (5, (0, .dead)), (4, (0, .dead)), (3, (0, .dead)), (2, (0, .dead)), (1, (0, .dead)), (0, (0, .dead))] _
 refine x7x x9x (by rfl) ?_
 refine x2x rfl ?_
 refine x7x x9x (by rfl) ?_
 refine x0x rfl ?_
 refine z1z [7] [_] (b3l true bs) rfl rfl rfl (by decide) rfl rfl (by repeat (first | exact InH.nil | refine InH.cons rfl ?_)) (by (simp only [pI, y2y, y3y, v4v, gl, nx, v2v, Nat.beq]; rfl)) (by (simp only [pI, y2y, y3y, v4v, gl, nx, v2v, Nat.beq]; rfl)) ?_
 refine x2x rfl ?_
 refine c1h fun B X0 w0 => ?_
 refine a2p x9x (by rfl) 1 rfl rfl ?_
 refine x0x rfl ?_
 refine a5k [7] [_] (b1q (bs.take 2000) (fun b hb => hbs b (List.mem_of_mem_take hb)) 0 (by omega)) rfl rfl rfl rfl rfl (by decide) rfl rfl (by repeat (first | exact InH.nil | refine InH.cons rfl ?_)) (fun _ => (by (simp only [pI, y2y, y3y, v4v, gl, nx, v2v, Nat.beq]; rfl))) (fun _ => (by (simp only [pI, y2y, y3y, v4v, gl, nx, v2v, Nat.beq]; rfl))) fun w hw => ?_
 have hw2 : w.2 ≤ 0 + 100 := hw
 refine a2p x9x (by rfl) 2 rfl rfl ?_
 refine z1z [8] [_] (a8q true w.1) rfl rfl rfl (by decide) rfl rfl (by repeat (first | exact InH.nil | refine InH.cons rfl ?_)) (by (simp only [pI, y2y, y3y, v4v, gl, nx, v2v, Nat.beq]; rfl)) (by (simp only [pI, y2y, y3y, v4v, gl, nx, v2v, Nat.beq]; rfl)) ?_
 refine x2x rfl ?_
 refine b0u rfl ?_
 obtain ⟨b, hb⟩ : ∃ b, a3u w.1 = b := ⟨_, rfl⟩
 rw [hb]
 have hb1 : ∀ x ∈ b, x < 256 := by rw [← hb]; exact a5q _
 have hb2 : b.length ≤ 5000 := by rw [← hb]; exact c1t _
 refine x8x fun K1 hK1 => ?_
 refine x7x x9x (by rfl) ?_
 refine x0x rfl ?_
 refine a2o (n := b.length) rfl v6v rfl rfl (List.length_map _) ?_
 refine z0z rfl rfl rfl ?_
 refine x0x rfl ?_
 refine a0d rfl rfl (fun hg2 => ?_) (fun hg2 => ?_)
 rotate_left
 ·try simp at hg2
  refine x4x rfl rfl ?_
  refine x4x rfl rfl ?_
  refine z4z rfl rfl ?_
  refine y1y rfl (fun hc8 => ?_) (fun hc8 => ?_)
  rotate_left
  ·simp at hc8
  try simp at hc8
  refine x7x x9x (by rfl) ?_
  refine x0x rfl ?_
  refine x2x rfl ?_
  try refine a0z (f := a1o) 2 rfl rfl (fun _ => rfl) ?_
  refine y6y ?_
  refine ⟨.inr rfl, _, ?_, [], rfl, rfl, HE.nil⟩
  exact ⟨hb1, by omega⟩
 try simp at hg2
 have hne : ¬ b.length = 0 := by (simp_all; done)
 refine x0x rfl ?_
 refine y9y rfl rfl ?_
 refine z1z [7] [_] (y4y true (bs.take 2000) (w.2) (2) (by omega) (fun b hb => hbs b (List.mem_of_mem_take hb))) rfl rfl rfl (by decide) rfl rfl (by repeat (first | exact InH.nil | refine InH.cons rfl ?_)) (by (simp only [pI, y2y, y3y, v4v, gl, nx, v2v, Nat.beq]; rfl)) (by (simp only [pI, y2y, y3y, v4v, gl, nx, v2v, Nat.beq]; rfl)) ?_
 refine y9y rfl rfl ?_
 refine z0z rfl rfl rfl ?_
 refine x6x rfl rfl ?_
 refine y1y rfl (fun hc3 => ?_) (fun hc3 => ?_)
 ·try simp at hc3
  refine x7x x9x (by rfl) ?_
  refine x0x rfl ?_
  refine x2x rfl ?_
  try refine a0z (f := a1o) 2 rfl rfl (fun _ => rfl) ?_
  refine y6y ?_
  refine ⟨.inr rfl, _, ?_, [], rfl, rfl, HE.nil⟩
  exact ⟨hb1, by omega⟩
 try simp at hc3
 refine y8y ?_
 refine hK1 _ _ ?_
 clear hK1 K1
 refine x7x x9x (by rfl) ?_
 refine x0x rfl ?_
 refine x0x rfl ?_
 refine a2o (n := b.length) rfl v6v rfl rfl (List.length_map _) ?_
 refine z1z [7] [_] (y4y true (bs.take 2000) (w.2 + 1) (b.length) (by omega) (fun b hb => hbs b (List.mem_of_mem_take hb))) rfl rfl rfl (by decide) rfl rfl (by repeat (first | exact InH.nil | refine InH.cons rfl ?_)) (by (simp only [pI, y2y, y3y, v4v, gl, nx, v2v, Nat.beq]; rfl)) (by (simp only [pI, y2y, y3y, v4v, gl, nx, v2v, Nat.beq]; rfl)) ?_
 refine x2x rfl ?_
 obtain ⟨i, ei, hi⟩ : ∃ i, pk (bs.take 2000) (w.2 + 1) b.length = i ∧ i < b.length := ⟨_, rfl, a1n _ _ _ (by omega)⟩
 rw [ei]
 refine x8x fun K4 hK4 => ?_
 refine x7x x9x (by rfl) ?_
 refine x0x rfl ?_
 refine z1z [7] [_] (y4y true (bs.take 2000) (w.2 + 1 + 1) (4) (by omega) (fun b hb => hbs b (List.mem_of_mem_take hb))) rfl rfl rfl (by decide) rfl rfl (by repeat (first | exact InH.nil | refine InH.cons rfl ?_)) (by (simp only [pI, y2y, y3y, v4v, gl, nx, v2v, Nat.beq]; rfl)) (by (simp only [pI, y2y, y3y, v4v, gl, nx, v2v, Nat.beq]; rfl)) ?_
 refine y7y ?_
 refine x7x x9x (by rfl) ?_
 refine z0z rfl rfl rfl ?_
 refine x2x rfl ?_
 refine y1y rfl (fun hc5 => ?_) (fun hc5 => ?_)
 ·try simp at hc5
  refine a0z (f := a1o) 4 rfl rfl (fun _ => rfl) ?_
  refine x7x x9x (by rfl) ?_
  refine x0x rfl ?_
  refine x0x rfl ?_
  refine a5g rfl v6v rfl a0o rfl rfl rfl (by omega) (by omega) (by omega) ?_
  refine x2x rfl ?_
  try refine a0z (f := a1o) 2 rfl rfl (fun _ => rfl) ?_
  refine y6y ?_
  refine ⟨.inr rfl, _, ?_, [], rfl, rfl, HE.nil⟩
  exact ⟨fun x hx => hb1 x (List.mem_of_mem_take (List.mem_of_mem_drop hx)), by simp; omega⟩
 try simp at hc5
 refine x7x x9x (by rfl) ?_
 refine z0z rfl rfl rfl ?_
 refine x2x rfl ?_
 refine y1y rfl (fun hc6 => ?_) (fun hc6 => ?_)
 ·try simp at hc6
  refine x7x x9x (by rfl) ?_
  refine x0x rfl ?_
  refine x0x rfl ?_
  refine x0x rfl ?_
  refine z1z [7] [_] (y4y true (bs.take 2000) (w.2 + 1 + 1 + 1) (256) (by omega) (fun b hb => hbs b (List.mem_of_mem_take hb))) rfl rfl rfl (by decide) rfl rfl (by repeat (first | exact InH.nil | refine InH.cons rfl ?_)) (by (simp only [pI, y2y, y3y, v4v, gl, nx, v2v, Nat.beq]; rfl)) (by (simp only [pI, y2y, y3y, v4v, gl, nx, v2v, Nat.beq]; rfl)) ?_
  have hv := a1n (bs.take 2000) (w.2 + 1 + 1 + 1) 256 (by omega)
  refine s5s (((pk (bs.take 2000) (w.2 + 1 + 1 + 1) 256 : Nat) : Int)) rfl y5y a0o rfl rfl (b5o (by omega) (by omega)) ?_
  obtain ⟨x, hx⟩ : ∃ x, b[i]? = some x := ⟨_, List.getElem?_eq_getElem hi⟩
  refine w6w (f := a1o) (l := b) (j := i) rfl rfl v6v rfl a0o rfl rfl hi ?_
  refine b8l (pk (bs.take 2000) (w.2 + 1 + 1 + 1) 256) rfl rfl a0o rfl rfl rfl hx rfl (by decide) (.val rfl rfl .nil) rfl rfl ?_
  refine x7x x9x (by rfl) ?_
  refine x0x rfl ?_
  refine x2x rfl ?_
  try refine a0z (f := a1o) 2 rfl rfl (fun _ => rfl) ?_
  refine y6y ?_
  refine ⟨.inr rfl, _, ?_, [], rfl, rfl, HE.nil⟩
  exact ⟨fun x hx => by rcases List.mem_or_eq_of_mem_set hx with h | h; exact hb1 x h; omega, by rw [List.length_set]; omega⟩
 try simp at hc6
 refine x7x x9x (by rfl) ?_
 refine z0z rfl rfl rfl ?_
 refine x2x rfl ?_
 refine y1y rfl (fun hc7 => ?_) (fun hc7 => ?_)
 ·try simp at hc7
  refine x7x x9x (by rfl) ?_
  refine x0x rfl ?_
  refine a1y (id := 0) v6v rfl a0o rfl rfl rfl rfl rfl ?_
  refine r7r (zs := (b ++ [1]).map a1o) rfl rfl v6v rfl a0o rfl rfl rfl rfl (by rfl) (by rw [List.map_append]; rfl) (by (simp only [List.length_map, List.length_append, List.length_cons, List.length_nil, List.length_take, List.length_drop, Int.toNat_natCast, T5]; omega)) ?_
  refine x2x rfl ?_
  try refine a0z (f := a1o) 2 rfl rfl (fun _ => rfl) ?_
  refine y6y ?_
  refine ⟨.inr rfl, _, ?_, [], rfl, rfl, HE.nil⟩
  exact ⟨fun x hx => by rcases List.mem_append.1 hx with h | h; exact hb1 x h; simp at h; omega, by simp; omega⟩
 try simp at hc7
 refine y8y ?_
 refine hK4 _ _ ?_
 clear hK4 K4
 refine a0z (f := a1o) 4 rfl rfl (fun _ => rfl) ?_
 refine q5q x9x s7s (by rfl) ?_
 refine a1x (id := 2) v6v rfl a0o rfl ?_
 refine x0x rfl ?_
 refine x0x rfl ?_
 refine a5g rfl v6v rfl a0o rfl rfl rfl (by omega) (by omega) (by omega) ?_
 refine b0h rfl rfl v6v rfl a0o rfl rfl rfl (by exact a9k (fun _ => rfl) _) (by rfl) (by (simp only [List.length_map, List.length_append, List.length_cons, List.length_nil, List.length_take, List.length_drop, Int.toNat_natCast, T5]; omega)) ?_
 refine x0x rfl ?_
 refine z1z [7] [_] (y4y true (bs.take 2000) (w.2 + 1 + 1 + 1) (128) (by omega) (fun b hb => hbs b (List.mem_of_mem_take hb))) rfl rfl rfl (by decide) rfl rfl (by repeat (first | exact InH.nil | refine InH.cons rfl ?_)) (by (simp only [pI, y2y, y3y, v4v, gl, nx, v2v, Nat.beq]; rfl)) (by (simp only [pI, y2y, y3y, v4v, gl, nx, v2v, Nat.beq]; rfl)) ?_
 have hv := a1n (bs.take 2000) (w.2 + 1 + 1 + 1) 128 (by omega)
 refine u5u (.int .i64 ((128 + pk (bs.take 2000) (w.2 + 1 + 1 + 1) 128 : Nat) : Int)) rfl rfl rfl (q3q rfl (by omega) (by omega) (by omega)) ?_
 refine s5s (((128 + pk (bs.take 2000) (w.2 + 1 + 1 + 1) 128 : Nat) : Int)) rfl y5y a0o rfl rfl (b5o (by omega) (by omega)) ?_
 refine a1y (id := 4) v6v rfl a0o rfl rfl rfl rfl rfl ?_
 refine r7r rfl rfl v6v rfl a0o rfl rfl rfl rfl (by rfl) (by exact a1l _ _ _) (by (simp only [List.length_map, List.length_append, List.length_cons, List.length_nil, List.length_take, List.length_drop, Int.toNat_natCast, T5]; omega)) ?_
 refine x0x rfl ?_
 refine x0x rfl ?_
 refine a5g rfl v6v rfl a0o rfl rfl rfl (by omega) (by (simp; omega)) (by (simp; done)) ?_
 refine b0h rfl rfl v6v rfl a0o rfl rfl rfl (by exact a9k (fun _ => rfl) _) (by exact c5a _ _ _) (by (simp only [List.length_map, List.length_append, List.length_cons, List.length_nil, List.length_take, List.length_drop, Int.toNat_natCast, T5]; omega)) ?_
 refine x2x rfl ?_
 refine ⟨by kernel_rfl, ?_⟩
 try refine a0z (f := a1o) 2 rfl rfl (fun _ => rfl) ?_
 refine y6y ?_
 refine ⟨.inr rfl, _, ?_, [], rfl, rfl, HE.nil⟩
 exact ⟨fun x hx => by simp only [List.mem_append, List.mem_singleton, List.not_mem_nil, false_or, or_false, List.drop_zero] at hx; rcases hx with (h | h) | h; exact hb1 x (List.mem_of_mem_take h); omega; exact hb1 x (by exact List.mem_of_mem_take (List.mem_of_mem_drop h)), by simp; omega⟩
end
section
theorem b3x (c c' : Bool) (a b : Wo) : a2g Try.prog 8 [.agg (a5s c a), .agg (a5s c' b)] (.pv (.bool (decide (a = b)))) := by
 refine u9u x9x (fn := Try.f8) (by kernel_rfl) (by kernel_rfl) rfl (outs := [.pv (.bool (decide (a = b)))]) (by rfl) (u3u rfl) 2 ?_
 refine x7x x9x (by rfl) ?_
 refine r5r (id := 0) rfl rfl rfl ?_
 refine r5r (id := 1) rfl rfl rfl ?_
 refine x2x rfl ?_
 refine x7x x9x (by rfl) ?_
 refine x1x rfl z5z rfl rfl y5y rfl rfl ?_
 refine x3x rfl y5y rfl rfl ?_
 refine x1x rfl z5z rfl rfl y5y rfl rfl ?_
 refine x3x rfl y5y rfl rfl ?_
 refine z0z rfl rfl rfl ?_
 refine x0x rfl ?_
 refine a0d rfl rfl (fun hg1 => ?_) (fun hg1 => ?_)
 rotate_left
 ·try simp at hg1
  refine x4x rfl rfl ?_
  refine x4x rfl rfl ?_
  refine x4x rfl rfl ?_
  refine x4x rfl rfl ?_
  refine x6x rfl rfl ?_
  refine x0x rfl ?_
  refine x4x rfl rfl ?_
  refine x4x rfl rfl ?_
  refine x4x rfl rfl ?_
  refine x4x rfl rfl ?_
  refine x4x rfl rfl ?_
  refine x6x rfl rfl ?_
  refine x0x rfl ?_
  refine x4x rfl rfl ?_
  refine x4x rfl rfl ?_
  refine x4x rfl rfl ?_
  refine x4x rfl rfl ?_
  refine x4x rfl rfl ?_
  refine x6x rfl rfl ?_
  refine x0x rfl ?_
  refine x4x rfl rfl ?_
  refine x4x rfl rfl ?_
  refine x4x rfl rfl ?_
  refine x4x rfl rfl ?_
  refine x4x rfl rfl ?_
  refine x6x rfl rfl ?_
  refine x0x rfl ?_
  refine x4x rfl rfl ?_
  refine x4x rfl rfl ?_
  refine x4x rfl rfl ?_
  refine x4x rfl rfl ?_
  refine x4x rfl rfl ?_
  refine x6x rfl rfl ?_
  refine x0x rfl ?_
  refine x4x rfl rfl ?_
  refine x4x rfl rfl ?_
  refine x4x rfl rfl ?_
  refine x4x rfl rfl ?_
  refine x4x rfl rfl ?_
  refine x6x rfl rfl ?_
  refine x0x rfl ?_
  refine x4x rfl rfl ?_
  refine x4x rfl rfl ?_
  refine x4x rfl rfl ?_
  refine x4x rfl rfl ?_
  refine x4x rfl rfl ?_
  refine x6x rfl rfl ?_
  refine x0x rfl ?_
  refine x4x rfl rfl ?_
  refine x4x rfl rfl ?_
  refine x4x rfl rfl ?_
  refine x4x rfl rfl ?_
  refine x4x rfl rfl ?_
  refine x6x rfl rfl ?_
  refine x0x rfl ?_
  refine x4x rfl rfl ?_
  refine x4x rfl rfl ?_
  refine x4x rfl rfl ?_
  refine x4x rfl rfl ?_
  refine x4x rfl rfl ?_
  refine x6x rfl rfl ?_
  refine x0x rfl ?_
  refine x4x rfl rfl ?_
  refine x4x rfl rfl ?_
  refine x4x rfl rfl ?_
  refine x4x rfl rfl ?_
  refine x4x rfl rfl ?_
  refine x6x rfl rfl ?_
  refine x2x rfl ?_
  refine y6y ⟨.inr rfl, ?_⟩
  refine z9z rfl ?_ rfl
  exact kF (by intro h; subst h; simp_all)
 try simp at hg1
 refine x1x rfl z5z rfl rfl y5y rfl rfl ?_
 refine y9y rfl rfl ?_
 refine x3x rfl y5y rfl rfl ?_
 refine y9y rfl rfl ?_
 refine x1x rfl z5z rfl rfl y5y rfl rfl ?_
 refine y9y rfl rfl ?_
 refine x3x rfl y5y rfl rfl ?_
 refine y9y rfl rfl ?_
 refine z0z rfl rfl rfl ?_
 refine z4z rfl rfl ?_
 refine x0x rfl ?_
 refine a0d rfl rfl (fun hg2 => ?_) (fun hg2 => ?_)
 rotate_left
 ·try simp at hg2
  refine x4x rfl rfl ?_
  refine x4x rfl rfl ?_
  refine x4x rfl rfl ?_
  refine x4x rfl rfl ?_
  refine x6x rfl rfl ?_
  refine x0x rfl ?_
  refine x4x rfl rfl ?_
  refine x4x rfl rfl ?_
  refine x4x rfl rfl ?_
  refine x4x rfl rfl ?_
  refine x4x rfl rfl ?_
  refine x6x rfl rfl ?_
  refine x0x rfl ?_
  refine x4x rfl rfl ?_
  refine x4x rfl rfl ?_
  refine x4x rfl rfl ?_
  refine x4x rfl rfl ?_
  refine x4x rfl rfl ?_
  refine x6x rfl rfl ?_
  refine x0x rfl ?_
  refine x4x rfl rfl ?_
  refine x4x rfl rfl ?_
  refine x4x rfl rfl ?_
  refine x4x rfl rfl ?_
  refine x4x rfl rfl ?_
  refine x6x rfl rfl ?_
  refine x0x rfl ?_
  refine x4x rfl rfl ?_
  refine x4x rfl rfl ?_
  refine x4x rfl rfl ?_
  refine x4x rfl rfl ?_
  refine x4x rfl rfl ?_
  refine x6x rfl rfl ?_
  refine x0x rfl ?_
  refine x4x rfl rfl ?_
  refine x4x rfl rfl ?_
  refine x4x rfl rfl ?_
  refine x4x rfl rfl ?_
  refine x4x rfl rfl ?_
  refine x6x rfl rfl ?_
  refine x0x rfl ?_
  refine x4x rfl rfl ?_
  refine x4x rfl rfl ?_
  refine x4x rfl rfl ?_
  refine x4x rfl rfl ?_
  refine x4x rfl rfl ?_
  refine x6x rfl rfl ?_
  refine x0x rfl ?_
  refine x4x rfl rfl ?_
  refine x4x rfl rfl ?_
  refine x4x rfl rfl ?_
  refine x4x rfl rfl ?_
  refine x4x rfl rfl ?_
  refine x6x rfl rfl ?_
  refine x0x rfl ?_
  refine x4x rfl rfl ?_
  refine x4x rfl rfl ?_
  refine x4x rfl rfl ?_
  refine x4x rfl rfl ?_
  refine x4x rfl rfl ?_
  refine x6x rfl rfl ?_
  refine x2x rfl ?_
  refine y6y ⟨.inr rfl, ?_⟩
  refine z9z rfl ?_ rfl
  exact kF (by intro h; subst h; simp_all)
 try simp at hg2
 refine x1x rfl z5z rfl rfl y5y rfl rfl ?_
 refine y9y rfl rfl ?_
 refine x3x rfl y5y rfl rfl ?_
 refine y9y rfl rfl ?_
 refine x1x rfl z5z rfl rfl y5y rfl rfl ?_
 refine y9y rfl rfl ?_
 refine x3x rfl y5y rfl rfl ?_
 refine y9y rfl rfl ?_
 refine z0z rfl rfl rfl ?_
 refine z4z rfl rfl ?_
 refine x0x rfl ?_
 refine a0d rfl rfl (fun hg3 => ?_) (fun hg3 => ?_)
 rotate_left
 ·try simp at hg3
  refine x4x rfl rfl ?_
  refine x4x rfl rfl ?_
  refine x4x rfl rfl ?_
  refine x4x rfl rfl ?_
  refine x6x rfl rfl ?_
  refine x0x rfl ?_
  refine x4x rfl rfl ?_
  refine x4x rfl rfl ?_
  refine x4x rfl rfl ?_
  refine x4x rfl rfl ?_
  refine x4x rfl rfl ?_
  refine x6x rfl rfl ?_
  refine x0x rfl ?_
  refine x4x rfl rfl ?_
  refine x4x rfl rfl ?_
  refine x4x rfl rfl ?_
  refine x4x rfl rfl ?_
  refine x4x rfl rfl ?_
  refine x6x rfl rfl ?_
  refine x0x rfl ?_
  refine x4x rfl rfl ?_
  refine x4x rfl rfl ?_
  refine x4x rfl rfl ?_
  refine x4x rfl rfl ?_
  refine x4x rfl rfl ?_
  refine x6x rfl rfl ?_
  refine x0x rfl ?_
  refine x4x rfl rfl ?_
  refine x4x rfl rfl ?_
  refine x4x rfl rfl ?_
  refine x4x rfl rfl ?_
  refine x4x rfl rfl ?_
  refine x6x rfl rfl ?_
  refine x0x rfl ?_
  refine x4x rfl rfl ?_
  refine x4x rfl rfl ?_
  refine x4x rfl rfl ?_
  refine x4x rfl rfl ?_
  refine x4x rfl rfl ?_
  refine x6x rfl rfl ?_
  refine x0x rfl ?_
  refine x4x rfl rfl ?_
  refine x4x rfl rfl ?_
  refine x4x rfl rfl ?_
  refine x4x rfl rfl ?_
  refine x4x rfl rfl ?_
  refine x6x rfl rfl ?_
  refine x0x rfl ?_
  refine x4x rfl rfl ?_
  refine x4x rfl rfl ?_
  refine x4x rfl rfl ?_
  refine x4x rfl rfl ?_
  refine x4x rfl rfl ?_
  refine x6x rfl rfl ?_
  refine x2x rfl ?_
  refine y6y ⟨.inr rfl, ?_⟩
  refine z9z rfl ?_ rfl
  exact kF (by intro h; subst h; simp_all)
 try simp at hg3
 refine x1x rfl z5z rfl rfl y5y rfl rfl ?_
 refine y9y rfl rfl ?_
 refine x3x rfl y5y rfl rfl ?_
 refine y9y rfl rfl ?_
 refine x1x rfl z5z rfl rfl y5y rfl rfl ?_
 refine y9y rfl rfl ?_
 refine x3x rfl y5y rfl rfl ?_
 refine y9y rfl rfl ?_
 refine z0z rfl rfl rfl ?_
 refine z4z rfl rfl ?_
 refine x0x rfl ?_
 refine a0d rfl rfl (fun hg4 => ?_) (fun hg4 => ?_)
 rotate_left
 ·try simp at hg4
  refine x4x rfl rfl ?_
  refine x4x rfl rfl ?_
  refine x4x rfl rfl ?_
  refine x4x rfl rfl ?_
  refine x6x rfl rfl ?_
  refine x0x rfl ?_
  refine x4x rfl rfl ?_
  refine x4x rfl rfl ?_
  refine x4x rfl rfl ?_
  refine x4x rfl rfl ?_
  refine x4x rfl rfl ?_
  refine x6x rfl rfl ?_
  refine x0x rfl ?_
  refine x4x rfl rfl ?_
  refine x4x rfl rfl ?_
  refine x4x rfl rfl ?_
  refine x4x rfl rfl ?_
  refine x4x rfl rfl ?_
  refine x6x rfl rfl ?_
  refine x0x rfl ?_
  refine x4x rfl rfl ?_
  refine x4x rfl rfl ?_
  refine x4x rfl rfl ?_
  refine x4x rfl rfl ?_
  refine x4x rfl rfl ?_
  refine x6x rfl rfl ?_
  refine x0x rfl ?_
  refine x4x rfl rfl ?_
  refine x4x rfl rfl ?_
  refine x4x rfl rfl ?_
  refine x4x rfl rfl ?_
  refine x4x rfl rfl ?_
  refine x6x rfl rfl ?_
  refine x0x rfl ?_
  refine x4x rfl rfl ?_
  refine x4x rfl rfl ?_
  refine x4x rfl rfl ?_
  refine x4x rfl rfl ?_
  refine x4x rfl rfl ?_
  refine x6x rfl rfl ?_
  refine x0x rfl ?_
  refine x4x rfl rfl ?_
  refine x4x rfl rfl ?_
  refine x4x rfl rfl ?_
  refine x4x rfl rfl ?_
  refine x4x rfl rfl ?_
  refine x6x rfl rfl ?_
  refine x2x rfl ?_
  refine y6y ⟨.inr rfl, ?_⟩
  refine z9z rfl ?_ rfl
  exact kF (by intro h; subst h; simp_all)
 try simp at hg4
 refine x1x rfl z5z rfl rfl y5y rfl rfl ?_
 refine y9y rfl rfl ?_
 refine x3x rfl y5y rfl rfl ?_
 refine y9y rfl rfl ?_
 refine x1x rfl z5z rfl rfl y5y rfl rfl ?_
 refine y9y rfl rfl ?_
 refine x3x rfl y5y rfl rfl ?_
 refine y9y rfl rfl ?_
 refine z0z rfl rfl rfl ?_
 refine z4z rfl rfl ?_
 refine x0x rfl ?_
 refine a0d rfl rfl (fun hg5 => ?_) (fun hg5 => ?_)
 rotate_left
 ·try simp at hg5
  refine x4x rfl rfl ?_
  refine x4x rfl rfl ?_
  refine x4x rfl rfl ?_
  refine x4x rfl rfl ?_
  refine x6x rfl rfl ?_
  refine x0x rfl ?_
  refine x4x rfl rfl ?_
  refine x4x rfl rfl ?_
  refine x4x rfl rfl ?_
  refine x4x rfl rfl ?_
  refine x4x rfl rfl ?_
  refine x6x rfl rfl ?_
  refine x0x rfl ?_
  refine x4x rfl rfl ?_
  refine x4x rfl rfl ?_
  refine x4x rfl rfl ?_
  refine x4x rfl rfl ?_
  refine x4x rfl rfl ?_
  refine x6x rfl rfl ?_
  refine x0x rfl ?_
  refine x4x rfl rfl ?_
  refine x4x rfl rfl ?_
  refine x4x rfl rfl ?_
  refine x4x rfl rfl ?_
  refine x4x rfl rfl ?_
  refine x6x rfl rfl ?_
  refine x0x rfl ?_
  refine x4x rfl rfl ?_
  refine x4x rfl rfl ?_
  refine x4x rfl rfl ?_
  refine x4x rfl rfl ?_
  refine x4x rfl rfl ?_
  refine x6x rfl rfl ?_
  refine x0x rfl ?_
  refine x4x rfl rfl ?_
  refine x4x rfl rfl ?_
  refine x4x rfl rfl ?_
  refine x4x rfl rfl ?_
  refine x4x rfl rfl ?_
  refine x6x rfl rfl ?_
  refine x2x rfl ?_
  refine y6y ⟨.inr rfl, ?_⟩
  refine z9z rfl ?_ rfl
  exact kF (by intro h; subst h; simp_all)
 try simp at hg5
 refine x1x rfl z5z rfl rfl y5y rfl rfl ?_
 refine y9y rfl rfl ?_
 refine x3x rfl y5y rfl rfl ?_
 refine y9y rfl rfl ?_
 refine x1x rfl z5z rfl rfl y5y rfl rfl ?_
 refine y9y rfl rfl ?_
 refine x3x rfl y5y rfl rfl ?_
 refine y9y rfl rfl ?_
 refine z0z rfl rfl rfl ?_
 refine z4z rfl rfl ?_
 refine x0x rfl ?_
 refine a0d rfl rfl (fun hg6 => ?_) (fun hg6 => ?_)
 rotate_left
 ·try simp at hg6
  refine x4x rfl rfl ?_
  refine x4x rfl rfl ?_
  refine x4x rfl rfl ?_
  refine x4x rfl rfl ?_
  refine x6x rfl rfl ?_
  refine x0x rfl ?_
  refine x4x rfl rfl ?_
  refine x4x rfl rfl ?_
  refine x4x rfl rfl ?_
  refine x4x rfl rfl ?_
  refine x4x rfl rfl ?_
  refine x6x rfl rfl ?_
  refine x0x rfl ?_
  refine x4x rfl rfl ?_
  refine x4x rfl rfl ?_
  refine x4x rfl rfl ?_
  refine x4x rfl rfl ?_
  refine x4x rfl rfl ?_
  refine x6x rfl rfl ?_
  refine x0x rfl ?_
  refine x4x rfl rfl ?_
  refine x4x rfl rfl ?_
  refine x4x rfl rfl ?_
  refine x4x rfl rfl ?_
  refine x4x rfl rfl ?_
  refine x6x rfl rfl ?_
  refine x0x rfl ?_
  refine x4x rfl rfl ?_
  refine x4x rfl rfl ?_
  refine x4x rfl rfl ?_
  refine x4x rfl rfl ?_
  refine x4x rfl rfl ?_
  refine x6x rfl rfl ?_
  refine x2x rfl ?_
  refine y6y ⟨.inr rfl, ?_⟩
  refine z9z rfl ?_ rfl
  exact kF (by intro h; subst h; simp_all)
 try simp at hg6
 refine x1x rfl z5z rfl rfl y5y rfl rfl ?_
 refine y9y rfl rfl ?_
 refine x3x rfl y5y rfl rfl ?_
 refine y9y rfl rfl ?_
 refine x1x rfl z5z rfl rfl y5y rfl rfl ?_
 refine y9y rfl rfl ?_
 refine x3x rfl y5y rfl rfl ?_
 refine y9y rfl rfl ?_
 refine z0z rfl rfl rfl ?_
 refine z4z rfl rfl ?_
 refine x0x rfl ?_
 refine a0d rfl rfl (fun hg7 => ?_) (fun hg7 => ?_)
 rotate_left
 ·try simp at hg7
  refine x4x rfl rfl ?_
  refine x4x rfl rfl ?_
  refine x4x rfl rfl ?_
  refine x4x rfl rfl ?_
  refine x6x rfl rfl ?_
  refine x0x rfl ?_
  refine x4x rfl rfl ?_
  refine x4x rfl rfl ?_
  refine x4x rfl rfl ?_
  refine x4x rfl rfl ?_
  refine x4x rfl rfl ?_
  refine x6x rfl rfl ?_
  refine x0x rfl ?_
  refine x4x rfl rfl ?_
  refine x4x rfl rfl ?_
  refine x4x rfl rfl ?_
  refine x4x rfl rfl ?_
  refine x4x rfl rfl ?_
  refine x6x rfl rfl ?_
  refine x0x rfl ?_
  refine x4x rfl rfl ?_
  refine x4x rfl rfl ?_
  refine x4x rfl rfl ?_
  refine x4x rfl rfl ?_
  refine x4x rfl rfl ?_
  refine x6x rfl rfl ?_
  refine x2x rfl ?_
  refine y6y ⟨.inr rfl, ?_⟩
  refine z9z rfl ?_ rfl
  exact kF (by intro h; subst h; simp_all)
 try simp at hg7
 refine x1x rfl z5z rfl rfl u1u rfl rfl ?_
 refine y9y rfl rfl ?_
 refine x3x rfl u1u rfl rfl ?_
 refine y9y rfl rfl ?_
 refine x1x rfl z5z rfl rfl u1u rfl rfl ?_
 refine y9y rfl rfl ?_
 refine x3x rfl u1u rfl rfl ?_
 refine y9y rfl rfl ?_
 refine z7z rfl rfl rfl (a7l ..) ?_
 refine z4z rfl rfl ?_
 refine x0x rfl ?_
 refine a0d rfl rfl (fun hg8 => ?_) (fun hg8 => ?_)
 rotate_left
 ·try simp at hg8
  refine x4x rfl rfl ?_
  refine x4x rfl rfl ?_
  refine x4x rfl rfl ?_
  refine x4x rfl rfl ?_
  refine x6x rfl rfl ?_
  refine x0x rfl ?_
  refine x4x rfl rfl ?_
  refine x4x rfl rfl ?_
  refine x4x rfl rfl ?_
  refine x4x rfl rfl ?_
  refine x4x rfl rfl ?_
  refine x6x rfl rfl ?_
  refine x0x rfl ?_
  refine x4x rfl rfl ?_
  refine x4x rfl rfl ?_
  refine x4x rfl rfl ?_
  refine x4x rfl rfl ?_
  refine x4x rfl rfl ?_
  refine x6x rfl rfl ?_
  refine x2x rfl ?_
  refine y6y ⟨.inr rfl, ?_⟩
  refine z9z rfl ?_ rfl
  exact kF (by intro h; subst h; simp_all)
 try simp at hg8
 refine x1x rfl z5z rfl rfl u1u rfl rfl ?_
 refine y9y rfl rfl ?_
 refine x3x rfl u1u rfl rfl ?_
 refine y9y rfl rfl ?_
 refine x1x rfl z5z rfl rfl u1u rfl rfl ?_
 refine y9y rfl rfl ?_
 refine x3x rfl u1u rfl rfl ?_
 refine y9y rfl rfl ?_
 refine z7z rfl rfl rfl (a7l ..) ?_
 refine z4z rfl rfl ?_
 refine x0x rfl ?_
 refine a0d rfl rfl (fun hg9 => ?_) (fun hg9 => ?_)
 rotate_left
 ·try simp at hg9
  refine x4x rfl rfl ?_
  refine x4x rfl rfl ?_
  refine x4x rfl rfl ?_
  refine x4x rfl rfl ?_
  refine x6x rfl rfl ?_
  refine x0x rfl ?_
  refine x4x rfl rfl ?_
  refine x4x rfl rfl ?_
  refine x4x rfl rfl ?_
  refine x4x rfl rfl ?_
  refine x4x rfl rfl ?_
  refine x6x rfl rfl ?_
  refine x2x rfl ?_
  refine y6y ⟨.inr rfl, ?_⟩
  refine z9z rfl ?_ rfl
  exact kF (by intro h; subst h; simp_all)
 try simp at hg9
 refine x1x rfl z5z rfl rfl w2w rfl rfl ?_
 refine y9y rfl rfl ?_
 refine x3x rfl w2w rfl rfl ?_
 refine y9y rfl rfl ?_
 refine x1x rfl z5z rfl rfl w2w rfl rfl ?_
 refine y9y rfl rfl ?_
 refine x3x rfl w2w rfl rfl ?_
 refine y9y rfl rfl ?_
 refine z7z rfl rfl rfl (b0t ..) ?_
 refine z4z rfl rfl ?_
 refine x0x rfl ?_
 refine a0d rfl rfl (fun hg10 => ?_) (fun hg10 => ?_)
 rotate_left
 ·try simp at hg10
  refine x4x rfl rfl ?_
  refine x4x rfl rfl ?_
  refine x4x rfl rfl ?_
  refine x4x rfl rfl ?_
  refine x6x rfl rfl ?_
  refine x2x rfl ?_
  refine y6y ⟨.inr rfl, ?_⟩
  refine z9z rfl ?_ rfl
  exact kF (by intro h; subst h; simp_all)
 try simp at hg10
 refine x1x rfl z5z rfl rfl w5w rfl rfl ?_
 refine y9y rfl rfl ?_
 refine x3x rfl w5w rfl rfl ?_
 refine y9y rfl rfl ?_
 refine x1x rfl z5z rfl rfl w5w rfl rfl ?_
 refine y9y rfl rfl ?_
 refine x3x rfl w5w rfl rfl ?_
 refine y9y rfl rfl ?_
 refine z7z rfl rfl rfl (b3m ..) ?_
 refine z4z rfl rfl ?_
 refine x2x rfl ?_
 refine y6y ⟨.inr rfl, ?_⟩
 refine z9z rfl ?_ rfl
 exact congrArg (fun b : Bool => [AV.pv (.bool b)]) (Bool.eq_iff_iff.2 ⟨fun h => decide_eq_true (by cases a; cases b; simp_all), fun h => by have := of_decide_eq_true h; subst this; simp⟩)
end
end Go.Proofs.Ytdelokimkggeaaa.Am
