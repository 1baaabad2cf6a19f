/- Part 5 of the texts that the proof of LawFnExactNodeSettle leans on, merged by program. -/
import Derived.Test.YtpadkogpeobboaaGreatKj4
set_option linter.unusedVariables false
set_option linter.unusedSimpArgs false
namespace Go.Proofs.YtpadkogpeobboaaGreat.Am
open Go Go.RowKit
section
theorem b5a (c : Bool) (n : Nd) : a0o Tryz.prog 214 [.agg (a1d c n)] (.pv (.bool (decide (a5w n)))) := by
 refine z4z x7x (fn := Tryz.f214) (by kernel_rfl) (by kernel_rfl) rfl (outs := [.pv (.bool (decide (a5w n)))]) (by rfl) (Nat.le_of_ble_eq_true rfl) 1 ?_
 refine x4x x7x (by rfl) ?_
 refine v5v (id := 0) rfl rfl rfl ?_
 refine x2x rfl ?_
 refine x4x x7x (by rfl) ?_
 refine x0x rfl z5z rfl rfl y9y rfl rfl ?_
 refine x3x rfl y9y rfl rfl ?_
 refine y7y rfl rfl rfl (c1w ..) ?_
 refine x1x rfl ?_
 refine s9s rfl rfl (fun hg1 => ?_) (fun hg1 => ?_)
 rotate_left
 ·try simp at hg1
  refine x6x rfl rfl ?_
  refine x6x rfl rfl ?_
  refine y2y rfl rfl ?_
  refine x1x rfl ?_
  refine x6x rfl rfl ?_
  refine x6x rfl rfl ?_
  refine x6x rfl rfl ?_
  refine y2y rfl rfl ?_
  refine x1x rfl ?_
  refine x6x rfl rfl ?_
  refine x6x rfl rfl ?_
  refine x6x rfl rfl ?_
  refine y2y rfl rfl ?_
  refine x1x rfl ?_
  refine x6x rfl rfl ?_
  refine x6x rfl rfl ?_
  refine x6x rfl rfl ?_
  refine y2y rfl rfl ?_
  refine x1x rfl ?_
  refine x6x rfl rfl ?_
  refine x6x rfl rfl ?_
  refine x6x rfl rfl ?_
  refine y2y rfl rfl ?_
  refine x1x rfl ?_
  refine x6x rfl rfl ?_
  refine x6x rfl rfl ?_
  refine x6x rfl rfl ?_
  refine y2y rfl rfl ?_
  refine x2x rfl ?_
  refine y0y ⟨.inr rfl, ?_⟩
  refine z0z rfl ?_ rfl
  exact kF (by unfold a5w; omega)
 try simp at hg1
 refine x0x rfl z5z rfl rfl y9y rfl rfl ?_
 refine y5y rfl rfl ?_
 refine x3x rfl y9y rfl rfl ?_
 refine y5y rfl rfl ?_
 refine y7y rfl rfl rfl (w8w ..) ?_
 refine y8y rfl rfl ?_
 refine x1x rfl ?_
 refine s9s rfl rfl (fun hg2 => ?_) (fun hg2 => ?_)
 rotate_left
 ·try simp at hg2
  refine x6x rfl rfl ?_
  refine x6x rfl rfl ?_
  refine y2y rfl rfl ?_
  refine x1x rfl ?_
  refine x6x rfl rfl ?_
  refine x6x rfl rfl ?_
  refine x6x rfl rfl ?_
  refine y2y rfl rfl ?_
  refine x1x rfl ?_
  refine x6x rfl rfl ?_
  refine x6x rfl rfl ?_
  refine x6x rfl rfl ?_
  refine y2y rfl rfl ?_
  refine x1x rfl ?_
  refine x6x rfl rfl ?_
  refine x6x rfl rfl ?_
  refine x6x rfl rfl ?_
  refine y2y rfl rfl ?_
  refine x1x rfl ?_
  refine x6x rfl rfl ?_
  refine x6x rfl rfl ?_
  refine x6x rfl rfl ?_
  refine y2y rfl rfl ?_
  refine x2x rfl ?_
  refine y0y ⟨.inr rfl, ?_⟩
  refine z0z rfl ?_ rfl
  exact kF (by unfold a5w; omega)
 try simp at hg2
 refine x0x rfl z5z rfl rfl y9y rfl rfl ?_
 refine y5y rfl rfl ?_
 refine x3x rfl y9y rfl rfl ?_
 refine y5y rfl rfl ?_
 refine y7y rfl rfl rfl (w8w ..) ?_
 refine y8y rfl rfl ?_
 refine x1x rfl ?_
 refine s9s rfl rfl (fun hg3 => ?_) (fun hg3 => ?_)
 rotate_left
 ·try simp at hg3
  refine x6x rfl rfl ?_
  refine x6x rfl rfl ?_
  refine y2y rfl rfl ?_
  refine x1x rfl ?_
  refine x6x rfl rfl ?_
  refine x6x rfl rfl ?_
  refine x6x rfl rfl ?_
  refine y2y rfl rfl ?_
  refine x1x rfl ?_
  refine x6x rfl rfl ?_
  refine x6x rfl rfl ?_
  refine x6x rfl rfl ?_
  refine y2y rfl rfl ?_
  refine x1x rfl ?_
  refine x6x rfl rfl ?_
  refine x6x rfl rfl ?_
  refine x6x rfl rfl ?_
  refine y2y rfl rfl ?_
  refine x2x rfl ?_
  refine y0y ⟨.inr rfl, ?_⟩
  refine z0z rfl ?_ rfl
  exact kF (by unfold a5w; omega)
 try simp at hg3
 refine x0x rfl z5z rfl rfl y9y rfl rfl ?_
 refine y5y rfl rfl ?_
 refine x3x rfl y9y rfl rfl ?_
 refine y5y rfl rfl ?_
 refine y7y rfl rfl rfl (w8w ..) ?_
 refine y8y rfl rfl ?_
 refine x1x rfl ?_
 refine s9s rfl rfl (fun hg4 => ?_) (fun hg4 => ?_)
 rotate_left
 ·try simp at hg4
  refine x6x rfl rfl ?_
  refine x6x rfl rfl ?_
  refine y2y rfl rfl ?_
  refine x1x rfl ?_
  refine x6x rfl rfl ?_
  refine x6x rfl rfl ?_
  refine x6x rfl rfl ?_
  refine y2y rfl rfl ?_
  refine x1x rfl ?_
  refine x6x rfl rfl ?_
  refine x6x rfl rfl ?_
  refine x6x rfl rfl ?_
  refine y2y rfl rfl ?_
  refine x2x rfl ?_
  refine y0y ⟨.inr rfl, ?_⟩
  refine z0z rfl ?_ rfl
  exact kF (by unfold a5w; omega)
 try simp at hg4
 refine x0x rfl z5z rfl rfl y9y rfl rfl ?_
 refine y5y rfl rfl ?_
 refine x3x rfl y9y rfl rfl ?_
 refine y5y rfl rfl ?_
 refine y7y rfl rfl rfl (w8w ..) ?_
 refine y8y rfl rfl ?_
 refine x1x rfl ?_
 refine s9s rfl rfl (fun hg5 => ?_) (fun hg5 => ?_)
 rotate_left
 ·try simp at hg5
  refine x6x rfl rfl ?_
  refine x6x rfl rfl ?_
  refine y2y rfl rfl ?_
  refine x1x rfl ?_
  refine x6x rfl rfl ?_
  refine x6x rfl rfl ?_
  refine x6x rfl rfl ?_
  refine y2y rfl rfl ?_
  refine x2x rfl ?_
  refine y0y ⟨.inr rfl, ?_⟩
  refine z0z rfl ?_ rfl
  exact kF (by unfold a5w; omega)
 try simp at hg5
 refine x0x rfl z5z rfl rfl y9y rfl rfl ?_
 refine y5y rfl rfl ?_
 refine x3x rfl y9y rfl rfl ?_
 refine y5y rfl rfl ?_
 refine y7y rfl rfl rfl (w8w ..) ?_
 refine y8y rfl rfl ?_
 refine x1x rfl ?_
 refine s9s rfl rfl (fun hg6 => ?_) (fun hg6 => ?_)
 rotate_left
 ·try simp at hg6
  refine x6x rfl rfl ?_
  refine x6x rfl rfl ?_
  refine y2y rfl rfl ?_
  refine x2x rfl ?_
  refine y0y ⟨.inr rfl, ?_⟩
  refine z0z rfl ?_ rfl
  exact kF (by unfold a5w; omega)
 try simp at hg6
 refine x0x rfl z5z rfl rfl y9y rfl rfl ?_
 refine y5y rfl rfl ?_
 refine x3x rfl y9y rfl rfl ?_
 refine y5y rfl rfl ?_
 refine y7y rfl rfl rfl (w8w ..) ?_
 refine y8y rfl rfl ?_
 refine x2x rfl ?_
 refine y0y ⟨.inr rfl, ?_⟩
 refine z0z rfl ?_ rfl
 exact congrArg (fun b : Bool => [AV.pv (.bool b)]) (decide_eq_decide.2 (by unfold a5w; omega))
theorem a1n  : a0o Tryz.prog 109 [] (.pv (.int .i64 9999)) := by
 refine z4z x7x (fn := Tryz.f109) (by kernel_rfl) (by kernel_rfl) rfl (outs := [.pv (.int .i64 9999)]) (by rfl) (Nat.le_of_ble_eq_true rfl) 0 ?_
 refine x4x x7x (by rfl) ?_
 refine x2x rfl ?_
 refine x4x x7x (by rfl) ?_
 refine x2x rfl ?_
 refine y0y ⟨.inr rfl, ?_⟩
 exact z0z rfl rfl rfl
theorem b5c (c : Bool) (v : Vi) : a0o Tryz.prog 132 [.agg (a2n c v)] (.pv (.bool (kb (d1v v)))) := by
 refine z4z x7x (fn := Tryz.f132) (by kernel_rfl) (by kernel_rfl) rfl (outs := [.pv (.bool (kb (d1v v)))]) (by rfl) (Nat.le_of_ble_eq_true rfl) 1 ?_
 refine x4x x7x (by rfl) ?_
 refine v5v (id := 0) rfl rfl rfl ?_
 refine x2x rfl ?_
 refine p6p x7x r2r (by rfl) ?_
 refine x0x rfl w5w rfl rfl y9y rfl rfl ?_
 refine x3x rfl y9y rfl rfl ?_
 refine y7y rfl rfl rfl (a1n ..) ?_
 refine y7y rfl rfl rfl (q3q ..) ?_
 refine x1x rfl ?_
 refine s9s rfl rfl (fun hg1 => ?_) (fun hg1 => ?_)
 rotate_left
 ·try simp at hg1
  refine x6x rfl rfl ?_
  refine x6x rfl rfl ?_
  refine x6x rfl rfl ?_
  refine y2y rfl rfl ?_
  refine x1x rfl ?_
  refine x6x rfl rfl ?_
  refine x6x rfl rfl ?_
  refine x6x rfl rfl ?_
  refine x6x rfl rfl ?_
  refine y2y rfl rfl ?_
  refine x2x rfl ?_
  refine ⟨by kernel_rfl, ?_⟩
  refine y0y ⟨.inr rfl, ?_⟩
  refine z0z rfl ?_ rfl
  exact congrArg (fun b : Bool => [AV.pv (.bool b)]) (a7j (fun h => by obtain ⟨q1, q2, q3⟩ := h; omega))
 try simp at hg1
 refine x0x rfl w5w rfl rfl y9y rfl rfl ?_
 refine y5y rfl rfl ?_
 refine x3x rfl y9y rfl rfl ?_
 refine y5y rfl rfl ?_
 refine y7y rfl rfl rfl (a1n ..) ?_
 refine y5y rfl rfl ?_
 refine y7y rfl rfl rfl (q3q ..) ?_
 refine y8y rfl rfl ?_
 refine x1x rfl ?_
 refine s9s rfl rfl (fun hg2 => ?_) (fun hg2 => ?_)
 rotate_left
 ·try simp at hg2
  refine x6x rfl rfl ?_
  refine x6x rfl rfl ?_
  refine x6x rfl rfl ?_
  refine y2y rfl rfl ?_
  refine x2x rfl ?_
  refine ⟨by kernel_rfl, ?_⟩
  refine y0y ⟨.inr rfl, ?_⟩
  refine z0z rfl ?_ rfl
  exact congrArg (fun b : Bool => [AV.pv (.bool b)]) (a7j (fun h => by obtain ⟨q1, q2, q3⟩ := h; omega))
 try simp at hg2
 refine x0x rfl w5w rfl rfl u6u rfl rfl ?_
 refine y5y rfl rfl ?_
 refine x3x rfl u6u rfl rfl ?_
 refine y5y rfl rfl ?_
 refine y7y rfl rfl rfl (a3o ..) ?_
 refine y5y rfl rfl ?_
 refine y7y rfl rfl rfl (a3n ..) ?_
 refine y8y rfl rfl ?_
 refine x2x rfl ?_
 refine ⟨by kernel_rfl, ?_⟩
 refine y0y ⟨.inr rfl, ?_⟩
 refine z0z rfl ?_ rfl
 exact congrArg (fun b : Bool => [AV.pv (.bool b)]) (d7o ⟨fun h => ⟨by omega, by omega, h⟩, fun h => h.2.2⟩)
theorem b7p (c : Bool) (n : Nd) : a0o Tryz.prog 160 [.agg (a1d c n)] (.pv (.bool (kb (a6w n)))) := by
 refine z4z x7x (fn := Tryz.f160) (by kernel_rfl) (by kernel_rfl) rfl (outs := [.pv (.bool (kb (a6w n)))]) (by rfl) (Nat.le_of_ble_eq_true rfl) 1 ?_
 refine x4x x7x (by rfl) ?_
 refine v5v (id := 0) rfl rfl rfl ?_
 refine x2x rfl ?_
 refine x5x fun K1 hK1 => ?_
 refine p6p x7x r2r (by rfl) ?_
 refine x0x rfl z5z rfl rfl p8p rfl rfl ?_
 refine x3x rfl p8p rfl rfl ?_
 refine u2u rfl p8p rfl ?_
 refine y3y rfl rfl rfl ?_
 refine x1x rfl ?_
 refine s9s rfl rfl (fun hg2 => ?_) (fun hg2 => ?_)
 rotate_left
 ·try simp at hg2
  refine x6x rfl rfl ?_
  refine x6x rfl rfl ?_
  refine x6x rfl rfl ?_
  refine y8y rfl rfl ?_
  refine x1x rfl ?_
  refine x6x rfl rfl ?_
  refine x6x rfl rfl ?_
  refine x6x rfl rfl ?_
  refine x6x rfl rfl ?_
  refine x6x rfl rfl ?_
  refine y8y rfl rfl ?_
  refine x1x rfl ?_
  refine x6x rfl rfl ?_
  refine x6x rfl rfl ?_
  refine x6x rfl rfl ?_
  refine x6x rfl rfl ?_
  refine x6x rfl rfl ?_
  refine y8y rfl rfl ?_
  refine x1x rfl ?_
  refine x6x rfl rfl ?_
  refine x6x rfl rfl ?_
  refine x6x rfl rfl ?_
  refine x6x rfl rfl ?_
  refine y8y rfl rfl ?_
  refine ⟨by kernel_rfl, ?_⟩
  refine x8x rfl (fun hc17 => ?_) (fun hc17 => ?_)
  rotate_left
  ·simp at hc17
  try simp at hc17
  refine x4x x7x (by rfl) ?_
  refine x2x rfl ?_
  refine y0y ⟨.inr rfl, ?_⟩
  clear hK1 K1
  refine z0z rfl ?_ rfl
  exact congrArg (fun b : Bool => [AV.pv (.bool b)]) (a7j (fun h => by obtain ⟨q1, q2, q3, q4, q5, q6⟩ := h; omega))
 try simp at hg2
 refine x0x rfl z5z rfl rfl p3p rfl rfl ?_
 refine y5y rfl rfl ?_
 refine x3x rfl p3p rfl rfl ?_
 refine y5y rfl rfl ?_
 refine u2u rfl p3p rfl ?_
 refine y5y rfl rfl ?_
 refine y3y rfl rfl rfl ?_
 refine y2y rfl rfl ?_
 refine x1x rfl ?_
 refine s9s rfl rfl (fun hg3 => ?_) (fun hg3 => ?_)
 rotate_left
 ·try simp at hg3
  refine x6x rfl rfl ?_
  refine x6x rfl rfl ?_
  refine x6x rfl rfl ?_
  refine x6x rfl rfl ?_
  refine y8y rfl rfl ?_
  refine x1x rfl ?_
  refine x6x rfl rfl ?_
  refine x6x rfl rfl ?_
  refine x6x rfl rfl ?_
  refine x6x rfl rfl ?_
  refine x6x rfl rfl ?_
  refine y8y rfl rfl ?_
  refine x1x rfl ?_
  refine x6x rfl rfl ?_
  refine x6x rfl rfl ?_
  refine x6x rfl rfl ?_
  refine x6x rfl rfl ?_
  refine y8y rfl rfl ?_
  refine ⟨by kernel_rfl, ?_⟩
  refine x8x rfl (fun hc16 => ?_) (fun hc16 => ?_)
  rotate_left
  ·simp at hc16
  try simp at hc16
  refine x4x x7x (by rfl) ?_
  refine x2x rfl ?_
  refine y0y ⟨.inr rfl, ?_⟩
  clear hK1 K1
  refine z0z rfl ?_ rfl
  exact congrArg (fun b : Bool => [AV.pv (.bool b)]) (a7j (fun h => by obtain ⟨q1, q2, q3, q4, q5, q6⟩ := h; omega))
 try simp at hg3
 refine x0x rfl z5z rfl rfl y9y rfl rfl ?_
 refine y5y rfl rfl ?_
 refine x3x rfl y9y rfl rfl ?_
 refine y5y rfl rfl ?_
 refine y7y rfl rfl rfl (a1n ..) ?_
 refine y5y rfl rfl ?_
 refine y7y rfl rfl rfl (q3q ..) ?_
 refine y5y rfl rfl ?_
 refine w2w rfl ?_
 refine y2y rfl rfl ?_
 refine x1x rfl ?_
 refine s9s rfl rfl (fun hg4 => ?_) (fun hg4 => ?_)
 rotate_left
 ·try simp at hg4
  refine x6x rfl rfl ?_
  refine x6x rfl rfl ?_
  refine x6x rfl rfl ?_
  refine x6x rfl rfl ?_
  refine y8y rfl rfl ?_
  refine x1x rfl ?_
  refine x6x rfl rfl ?_
  refine x6x rfl rfl ?_
  refine x6x rfl rfl ?_
  refine x6x rfl rfl ?_
  refine y8y rfl rfl ?_
  refine ⟨by kernel_rfl, ?_⟩
  refine x8x rfl (fun hc15 => ?_) (fun hc15 => ?_)
  rotate_left
  ·simp at hc15
  try simp at hc15
  refine x4x x7x (by rfl) ?_
  refine x2x rfl ?_
  refine y0y ⟨.inr rfl, ?_⟩
  clear hK1 K1
  refine z0z rfl ?_ rfl
  exact congrArg (fun b : Bool => [AV.pv (.bool b)]) (a7j (fun h => by obtain ⟨q1, q2, q3, q4, q5, q6⟩ := h; omega))
 try simp at hg4
 refine x0x rfl z5z rfl rfl y9y rfl rfl ?_
 refine y5y rfl rfl ?_
 refine x3x rfl y9y rfl rfl ?_
 refine y5y rfl rfl ?_
 refine y7y rfl rfl rfl (a1n ..) ?_
 refine y5y rfl rfl ?_
 refine y7y rfl rfl rfl (q3q ..) ?_
 refine y5y rfl rfl ?_
 refine w2w rfl ?_
 refine y2y rfl rfl ?_
 refine x1x rfl ?_
 refine s9s rfl rfl (fun hg5 => ?_) (fun hg5 => ?_)
 rotate_left
 ·try simp at hg5
  refine x6x rfl rfl ?_
  refine x6x rfl rfl ?_
  refine x6x rfl rfl ?_
  refine y8y rfl rfl ?_
  refine ⟨by kernel_rfl, ?_⟩
  refine x8x rfl (fun hc14 => ?_) (fun hc14 => ?_)
  rotate_left
  ·simp at hc14
  try simp at hc14
  refine x4x x7x (by rfl) ?_
  refine x2x rfl ?_
  refine y0y ⟨.inr rfl, ?_⟩
  clear hK1 K1
  refine z0z rfl ?_ rfl
  exact congrArg (fun b : Bool => [AV.pv (.bool b)]) (a7j (fun h => by obtain ⟨q1, q2, q3, q4, q5, q6⟩ := h; omega))
 try simp at hg5
 refine x0x rfl z5z rfl rfl y9y rfl rfl ?_
 refine y5y rfl rfl ?_
 refine x3x rfl y9y rfl rfl ?_
 refine y5y rfl rfl ?_
 refine y7y rfl rfl rfl (q3q ..) ?_
 refine y5y rfl rfl ?_
 refine w2w rfl ?_
 refine y2y rfl rfl ?_
 refine ⟨by kernel_rfl, ?_⟩
 refine x8x rfl (fun hc6 => ?_) (fun hc6 => ?_)
 ·try simp at hc6
  refine x4x x7x (by rfl) ?_
  refine x2x rfl ?_
  refine y0y ⟨.inr rfl, ?_⟩
  clear hK1 K1
  refine z0z rfl ?_ rfl
  exact congrArg (fun b : Bool => [AV.pv (.bool b)]) (a7j (fun h => by obtain ⟨q1, q2, q3, q4, q5, q6⟩ := h; omega))
 try simp at hc6
 have hL : n.views.length = 3 ∧ n.known.length = 3 ∧ (0 ≤ n.version ∧ n.version ≤ 9999) ∧ (0 ≤ n.round ∧ n.round ≤ 9999) ∧ (0 ≤ n.low ∧ n.low ≤ 41) := by omega
 refine x9x ?_
 refine hK1 _ _ ?_
 clear hK1 K1
 refine x5x fun K7 hK7 => ?_
 refine x4x x7x (by rfl) ?_
 refine x2x rfl ?_
 refine y6y ?_
 refine u4u (ι := Nat) (fun i γ1 => [(3, .pv (.int .i64 (i : Int)))]) (fun i γ1 => []) (fun i => i ≤ 3 ∧ c7y n.views (fun j v => ∀ k, n.known[j]? = some k → d1v v ∧ 0 ≤ k ∧ k ≤ 41) i) (fun i => 3 - i) (Cov.cons (t := 1) rfl Cov.nil) (HE.same (id := 0) rfl HE.nil) 0 ⟨by omega, a4g⟩ [] (Cov.cons (t := 3) rfl Cov.nil) HE.nil rfl fun i γ1 hi => ?_
 try dsimp only [List.cons_append, List.nil_append]
 obtain ⟨h1, h2⟩ := hi
 refine x5x fun K8 hK8 => ?_
 refine x4x x7x (by rfl) ?_
 refine x1x rfl ?_
 refine y3y rfl rfl rfl ?_
 refine x8x rfl (fun hc9 => ?_) (fun hc9 => ?_)
 rotate_left
 ·try simp at hc9
  obtain rfl : i = 3 := by omega
  refine v0v ?_
  refine hK7 _ _ ?_
  clear hK8 K8 hK7 K7
  refine x4x x7x (by rfl) ?_
  refine x2x rfl ?_
  refine y0y ⟨.inr rfl, ?_⟩
  refine z0z rfl ?_ rfl
  exact congrArg (fun b : Bool => [AV.pv (.bool b)]) (d4g ⟨hL.1, hL.2.1, hL.2.2.1, hL.2.2.2.1, hL.2.2.2.2, fun i v k a b => a6p h2 (by omega) i v a k b⟩)
 try simp at hc9
 obtain ⟨v, hv⟩ : ∃ v, n.views[i]? = some v := ⟨_, List.getElem?_eq_getElem (by omega)⟩
 obtain ⟨k, hk⟩ : ∃ k, n.known[i]? = some k := ⟨_, List.getElem?_eq_getElem (by omega)⟩
 refine x9x ?_
 refine hK8 _ _ ?_
 clear hK8 K8
 refine x5x fun K10 hK10 => ?_
 refine y6y ?_
 refine x4x x7x (by rfl) ?_
 refine x0x rfl z5z rfl rfl p8p rfl rfl ?_
 refine x3x rfl p8p rfl rfl ?_
 refine x1x rfl ?_
 refine z7z rfl rfl p8p rfl w5w rfl (by assumption) ?_
 refine z6z rfl w5w rfl rfl ?_
 refine y7y rfl rfl rfl (b5c ..) ?_
 refine w2w rfl ?_
 refine x1x rfl ?_
 refine s9s rfl rfl (fun hg11 => ?_) (fun hg11 => ?_)
 rotate_left
 ·try simp at hg11
  have hbad : ¬ d1v v := a4z (by simpa using hg11)
  refine x6x rfl rfl ?_
  refine x6x rfl rfl ?_
  refine x6x rfl rfl ?_
  refine x6x rfl rfl ?_
  refine x6x rfl rfl ?_
  refine x6x rfl rfl ?_
  refine y8y rfl rfl ?_
  refine x8x rfl (fun hc13 => ?_) (fun hc13 => ?_)
  rotate_left
  ·simp at hc13
  try simp at hc13
  refine x4x x7x (by rfl) ?_
  refine x2x rfl ?_
  refine y0y ⟨.inr rfl, ?_⟩
  clear hK10 K10 hK7 K7
  refine z0z rfl ?_ rfl
  exact congrArg (fun b : Bool => [AV.pv (.bool b)]) (a7j (fun h => hbad (h.2.2.2.2.2 _ _ _ hv hk).1))
 try simp at hg11
 have hvo : d1v v := b0v.1 (by simpa using hg11)
 refine x0x rfl z5z rfl rfl p3p rfl rfl ?_
 refine y5y rfl rfl ?_
 refine x3x rfl p3p rfl rfl ?_
 refine y5y rfl rfl ?_
 refine x1x rfl ?_
 refine y5y rfl rfl ?_
 refine z7z rfl rfl p3p rfl y9y rfl (by assumption) ?_
 refine y5y rfl rfl ?_
 refine z3z rfl y9y rfl ?_
 refine y5y rfl rfl ?_
 refine y7y rfl rfl rfl (q3q ..) ?_
 refine y5y rfl rfl ?_
 refine w2w rfl ?_
 refine y2y rfl rfl ?_
 refine x8x rfl (fun hc12 => ?_) (fun hc12 => ?_)
 rotate_left
 ·try simp at hc12
  refine x9x ?_
  refine hK10 _ _ ?_
  clear hK10 K10
  refine y4y x7x (by rfl) ?_
  refine x1x rfl ?_
  refine u1u (b := 1) rfl rfl (by omega) ?_
  refine x2x rfl ?_
  exact ⟨i + 1, ⟨⟨by omega, a4h h2 hv (fun k2 hk2 => by rw [hk] at hk2; cases hk2; exact ⟨hvo, by omega⟩)⟩, by omega⟩, [], (Cov.cons (t := 3) rfl Cov.nil), (Cov.cons (t := 1) rfl Cov.nil), HE.nil, (HE.same (id := 0) rfl HE.nil), rfl⟩
 try simp at hc12
 refine x4x x7x (by rfl) ?_
 refine x2x rfl ?_
 refine y0y ⟨.inr rfl, ?_⟩
 clear hK10 K10 hK7 K7
 refine z0z rfl ?_ rfl
 exact congrArg (fun b : Bool => [AV.pv (.bool b)]) (a7j (fun h => by have := (h.2.2.2.2.2 _ _ _ hv hk).2; omega))
theorem b8s (c : Bool) (n : Nd) : a0o Tryz.prog 148 [.agg (a1d c n)] (.pv (.bool (kb (a1v n)))) := by
 refine z4z x7x (fn := Tryz.f148) (by kernel_rfl) (by kernel_rfl) rfl (outs := [.pv (.bool (kb (a1v n)))]) (by rfl) (Nat.le_of_ble_eq_true rfl) 4 ?_
 refine x4x x7x (by rfl) ?_
 refine v5v (id := 0) rfl rfl rfl ?_
 refine x2x rfl ?_
 refine x5x fun K1 hK1 => ?_
 refine x4x x7x (by rfl) ?_
 refine y1y rfl z5z rfl rfl rfl ?_
 refine y7y rfl rfl rfl (b5a ..) ?_
 refine w2w rfl ?_
 refine x1x rfl ?_
 refine s9s rfl rfl (fun hg2 => ?_) (fun hg2 => ?_)
 rotate_left
 ·try simp at hg2
  have hX : ¬ a5w n := by exact hg2
  refine x6x rfl rfl ?_
  refine x6x rfl rfl ?_
  refine x6x rfl rfl ?_
  refine y8y rfl rfl ?_
  refine x1x rfl ?_
  refine x6x rfl rfl ?_
  refine x6x rfl rfl ?_
  refine x6x rfl rfl ?_
  refine x6x rfl rfl ?_
  refine y8y rfl rfl ?_
  refine x8x rfl (fun hc33 => ?_) (fun hc33 => ?_)
  rotate_left
  ·simp at hc33
  try simp at hc33
  try have hX : ¬ a7i okO a3c n.outs 96 = true := by first | exact hc33 | simpa using hc33
  refine x4x x7x (by rfl) ?_
  refine x2x rfl ?_
  refine y0y ⟨.inr rfl, ?_⟩
  clear hK1 K1
  refine z0z rfl ?_ rfl
  exact congrArg (fun b : Bool => [AV.pv (.bool b)]) (a7j (fun h => by obtain ⟨q1, q2, q3, q4, q5, q6, q7, q8, q9⟩ := h; exact hX q1))
 try simp at hg2
 have hA1 : a5w n := by exact hg2
 refine x0x rfl z5z rfl rfl u6u rfl rfl ?_
 refine y5y rfl rfl ?_
 refine x3x rfl u6u rfl rfl ?_
 refine y5y rfl rfl ?_
 refine y7y rfl rfl rfl (a6e ..) ?_
 refine y5y rfl rfl ?_
 refine w2w rfl ?_
 refine y2y rfl rfl ?_
 refine x1x rfl ?_
 refine s9s rfl rfl (fun hg3 => ?_) (fun hg3 => ?_)
 rotate_left
 ·try simp at hg3
  have hX : ¬ a7i okE a2b n.kept 100 = true := by simpa using hg3
  refine x6x rfl rfl ?_
  refine x6x rfl rfl ?_
  refine x6x rfl rfl ?_
  refine y8y rfl rfl ?_
  refine x8x rfl (fun hc32 => ?_) (fun hc32 => ?_)
  rotate_left
  ·simp at hc32
  try simp at hc32
  try have hX : ¬ a7i okO a3c n.outs 96 = true := by first | exact hc32 | simpa using hc32
  refine x4x x7x (by rfl) ?_
  refine x2x rfl ?_
  refine y0y ⟨.inr rfl, ?_⟩
  clear hK1 K1
  refine z0z rfl ?_ rfl
  exact congrArg (fun b : Bool => [AV.pv (.bool b)]) (a7j (fun h => by obtain ⟨q1, q2, q3, q4, q5, q6, q7, q8, q9⟩ := h; exact hX q2))
 try simp at hg3
 have hA2 : a7i okE a2b n.kept 100 = true := by exact hg3
 refine x0x rfl z5z rfl rfl u7u rfl rfl ?_
 refine y5y rfl rfl ?_
 refine x3x rfl u7u rfl rfl ?_
 refine y5y rfl rfl ?_
 refine y7y rfl rfl rfl (b3i ..) ?_
 refine y5y rfl rfl ?_
 refine w2w rfl ?_
 refine y2y rfl rfl ?_
 refine x8x rfl (fun hc4 => ?_) (fun hc4 => ?_)
 ·try simp at hc4
  try have hX : ¬ a7i okO a3c n.outs 96 = true := by simpa using hc4
  refine x4x x7x (by rfl) ?_
  refine x2x rfl ?_
  refine y0y ⟨.inr rfl, ?_⟩
  clear hK1 K1
  refine z0z rfl ?_ rfl
  exact congrArg (fun b : Bool => [AV.pv (.bool b)]) (a7j (fun h => by obtain ⟨q1, q2, q3, q4, q5, q6, q7, q8, q9⟩ := h; exact hX q3))
 try simp at hc4
 have hA3 : a7i okO a3c n.outs 96 = true := by exact hc4
 refine x9x ?_
 refine hK1 _ _ ?_
 clear hK1 K1
 refine x5x fun K5 hK5 => ?_
 refine x4x x7x (by rfl) ?_
 refine x0x rfl z5z rfl rfl u7u rfl rfl ?_
 refine x3x rfl u7u rfl rfl ?_
 refine u2u rfl u7u rfl ?_
 refine x1x rfl ?_
 refine y6y ?_
 refine w9w 27 rfl fun hlen0 => ?_
 refine u4u (ι := Nat) (fun i γ1 => [(29, .pv (.int .i64 (i : Int)))]) (fun i γ1 => [(1, ((γ1 1), .dead))]) (fun i => i ≤ n.outs.length ∧ c7y n.outs (fun _ o => o.time < n.g) i) (fun i => n.outs.length - i) (Cov.cons (t := 1) rfl (Cov.cons (t := 27) rfl (Cov.cons (t := 28) rfl Cov.nil))) (HE.same (id := 0) rfl (HE.same (id := 2) rfl (HE.same (id := 3) rfl HE.nil))) 0 ⟨by omega, a4g⟩ [0, _] (Cov.cons (t := 29) rfl Cov.nil) (HE.kill rfl HE.nil) rfl fun i γ1 hi => ?_
 try dsimp only [List.cons_append, List.nil_append]
 obtain ⟨a1, a2⟩ := hi
 refine x4x x7x (by rfl) ?_
 refine y3y rfl rfl rfl ?_
 refine x5x fun K6 hK6 => ?_
 refine x8x rfl (fun hc7 => ?_) (fun hc7 => ?_)
 ·try simp at hc7
  obtain ⟨o, ho⟩ : ∃ o, n.outs[i]? = some o := ⟨_, List.getElem?_eq_getElem (by omega)⟩
  refine x9x ?_
  refine hK6 _ _ ?_
  clear hK6 K6
  refine x5x fun K8 hK8 => ?_
  refine y6y ?_
  refine x4x x7x (by rfl) ?_
  refine z7z rfl rfl u7u rfl u0u rfl (by assumption) ?_
  refine z6z rfl u0u rfl rfl ?_
  refine u9u (id := 1) u0u b2j rfl ?_
  refine z2z rfl rfl u0u rfl rfl rfl rfl ?_
  refine x4x x7x (by rfl) ?_
  refine x0x rfl u0u rfl rfl y9y rfl rfl ?_
  refine x3x rfl y9y rfl rfl ?_
  refine x0x rfl z5z rfl rfl y9y rfl rfl ?_
  refine x3x rfl y9y rfl rfl ?_
  refine y3y rfl rfl rfl ?_
  refine x8x rfl (fun hc9 => ?_) (fun hc9 => ?_)
  rotate_left
  ·try simp at hc9
   have hlt : o.time < n.g := by omega
   refine x9x ?_
   refine hK8 _ _ ?_
   clear hK8 K8
   refine y4y x7x (by rfl) ?_
   refine u1u (b := 1) rfl rfl (by omega) ?_
   refine x1x rfl ?_
   exact ⟨i + 1, ⟨⟨by omega, a4h a2 ho hlt⟩, by omega⟩, [0, _], (Cov.cons (t := 29) rfl Cov.nil), (Cov.cons (t := 1) rfl (Cov.cons (t := 27) rfl (Cov.cons (t := 28) rfl Cov.nil))), (HE.kill rfl HE.nil), (HE.same (id := 0) rfl (HE.same (id := 2) rfl (HE.same (id := 3) rfl HE.nil))), rfl⟩
  try simp at hc9
  have hX : ¬ o.time < n.g := by omega
  refine x4x x7x (by rfl) ?_
  refine x2x rfl ?_
  refine y0y ⟨.inr rfl, ?_⟩
  clear hK8 K8 hK5 K5
  refine z0z rfl ?_ rfl
  exact congrArg (fun b : Bool => [AV.pv (.bool b)]) (a7j (fun h => by obtain ⟨q1, q2, q3, q4, q5, q6, q7, q8, q9⟩ := h; exact hX (q4 _ _ ho)))
 try simp at hc7
 have hO : ∀ (i : Nat) o, n.outs[i]? = some o → o.time < n.g := a6p a2 (by omega)
 refine v0v ?_
 refine hK5 _ _ ?_
 clear hK6 K6 hK5 K5
 refine x4x x7x (by rfl) ?_
 refine x0x rfl z5z rfl rfl y9y rfl rfl ?_
 refine x3x rfl y9y rfl rfl ?_
 refine y7y rfl rfl rfl (a3z ..) ?_
 refine x2x rfl ?_
 refine x5x fun K10 hK10 => ?_
 refine x4x x7x (by rfl) ?_
 refine x0x rfl z5z rfl rfl w1w rfl rfl ?_
 refine x3x rfl w1w rfl rfl ?_
 refine u2u rfl w1w rfl ?_
 refine x1x rfl ?_
 refine u2u rfl p3p rfl ?_
 refine y3y rfl rfl rfl ?_
 refine x1x rfl ?_
 refine s9s rfl rfl (fun hg11 => ?_) (fun hg11 => ?_)
 rotate_left
 ·try simp at hg11
  refine x6x rfl rfl ?_
  refine x6x rfl rfl ?_
  refine x6x rfl rfl ?_
  refine y8y rfl rfl ?_
  refine x1x rfl ?_
  refine x6x rfl rfl ?_
  refine x6x rfl rfl ?_
  refine x6x rfl rfl ?_
  refine x6x rfl rfl ?_
  refine y8y rfl rfl ?_
  refine x8x rfl (fun hc31 => ?_) (fun hc31 => ?_)
  rotate_left
  ·simp at hc31
  try simp at hc31
  refine x4x x7x (by rfl) ?_
  refine x2x rfl ?_
  refine y0y ⟨.inr rfl, ?_⟩
  clear hK10 K10
  refine z0z rfl ?_ rfl
  exact congrArg (fun b : Bool => [AV.pv (.bool b)]) (a7j (fun h => by obtain ⟨q1, q2, q3, q4, q5, q6, q7, q8, q9⟩ := h; omega))
 try simp at hg11
 refine x0x rfl z5z rfl rfl p8p rfl rfl ?_
 refine y5y rfl rfl ?_
 refine x3x rfl p8p rfl rfl ?_
 refine y5y rfl rfl ?_
 refine u2u rfl p8p rfl ?_
 refine y5y rfl rfl ?_
 refine y3y rfl rfl rfl ?_
 refine y2y rfl rfl ?_
 refine x1x rfl ?_
 refine s9s rfl rfl (fun hg12 => ?_) (fun hg12 => ?_)
 rotate_left
 ·try simp at hg12
  refine x6x rfl rfl ?_
  refine x6x rfl rfl ?_
  refine x6x rfl rfl ?_
  refine y8y rfl rfl ?_
  refine x8x rfl (fun hc30 => ?_) (fun hc30 => ?_)
  rotate_left
  ·simp at hc30
  try simp at hc30
  refine x4x x7x (by rfl) ?_
  refine x2x rfl ?_
  refine y0y ⟨.inr rfl, ?_⟩
  clear hK10 K10
  refine z0z rfl ?_ rfl
  exact congrArg (fun b : Bool => [AV.pv (.bool b)]) (a7j (fun h => by obtain ⟨q1, q2, q3, q4, q5, q6, q7, q8, q9⟩ := h; omega))
 try simp at hg12
 refine x0x rfl z5z rfl rfl p3p rfl rfl ?_
 refine y5y rfl rfl ?_
 refine x3x rfl p3p rfl rfl ?_
 refine y5y rfl rfl ?_
 refine u2u rfl p3p rfl ?_
 refine y5y rfl rfl ?_
 refine y3y rfl rfl rfl ?_
 refine y2y rfl rfl ?_
 refine x8x rfl (fun hc13 => ?_) (fun hc13 => ?_)
 ·try simp at hc13
  refine x4x x7x (by rfl) ?_
  refine x2x rfl ?_
  refine y0y ⟨.inr rfl, ?_⟩
  clear hK10 K10
  refine z0z rfl ?_ rfl
  exact congrArg (fun b : Bool => [AV.pv (.bool b)]) (a7j (fun h => by obtain ⟨q1, q2, q3, q4, q5, q6, q7, q8, q9⟩ := h; omega))
 try simp at hc13
 have hL : n.lanes.length = (a1c n.id 4).length ∧ n.views.length = 3 ∧ n.known.length = 3 := by omega
 refine x9x ?_
 refine hK10 _ _ ?_
 clear hK10 K10
 refine x5x fun K14 hK14 => ?_
 refine x4x x7x (by rfl) ?_
 refine x0x rfl z5z rfl rfl w1w rfl rfl ?_
 refine x3x rfl w1w rfl rfl ?_
 refine u2u rfl w1w rfl ?_
 refine x1x rfl ?_
 refine y6y ?_
 refine w9w 61 rfl fun hlen1 => ?_
 refine u4u (ι := Nat) (fun j γ2 => [(63, .pv (.int .i64 (j : Int)))]) (fun j γ2 => [(2, ((γ2 2), .dead))]) (fun j => j ≤ n.lanes.length ∧ c7y n.lanes (fun j l => (a1c n.id 4)[j]? = some l.proc ∧ a6v l = true) j) (fun j => n.lanes.length - j) (Cov.cons (t := 1) rfl (Cov.cons (t := 5) rfl (Cov.cons (t := 61) rfl (Cov.cons (t := 62) rfl Cov.nil)))) (HE.same (id := 0) rfl (HE.same (id := 1) rfl (HE.same (id := 3) rfl HE.nil))) 0 ⟨by omega, a4g⟩ [0, 0, _] (Cov.cons (t := 63) rfl Cov.nil) (HE.kill rfl HE.nil) rfl fun j γ2 hi => ?_
 try dsimp only [List.cons_append, List.nil_append]
 obtain ⟨b1, b2⟩ := hi
 refine x4x x7x (by rfl) ?_
 refine y3y rfl rfl rfl ?_
 refine x5x fun K15 hK15 => ?_
 refine x8x rfl (fun hc16 => ?_) (fun hc16 => ?_)
 ·try simp at hc16
  obtain ⟨l, hl⟩ : ∃ l, n.lanes[j]? = some l := ⟨_, List.getElem?_eq_getElem (by omega)⟩
  obtain ⟨q, hq⟩ : ∃ q, (a1c n.id 4)[j]? = some q := ⟨_, List.getElem?_eq_getElem (by omega)⟩
  refine x9x ?_
  refine hK15 _ _ ?_
  clear hK15 K15
  refine x5x fun K17 hK17 => ?_
  refine y6y ?_
  refine x4x x7x (by rfl) ?_
  refine x1x rfl ?_
  refine z7z rfl rfl w1w rfl v2v rfl (by assumption) ?_
  refine z6z rfl v2v rfl rfl ?_
  refine u9u (id := 2) v2v a6u rfl ?_
  refine x2x rfl ?_
  refine z2z rfl rfl v2v rfl rfl rfl rfl ?_
  refine p6p x7x r2r (by rfl) ?_
  refine x0x rfl v2v rfl rfl y9y rfl rfl ?_
  refine x3x rfl y9y rfl rfl ?_
  refine x1x rfl ?_
  refine x1x rfl ?_
  refine z7z rfl rfl p3p rfl y9y rfl (by assumption) ?_
  refine z3z rfl y9y rfl ?_
  refine y3y rfl rfl rfl ?_
  refine x1x rfl ?_
  refine s9s rfl rfl (fun hg18 => ?_) (fun hg18 => ?_)
  rotate_left
  ·try simp at hg18
   have hX : ¬ l.proc = q := by exact hg18
   refine x6x rfl rfl ?_
   refine x6x rfl rfl ?_
   refine y8y rfl rfl ?_
   refine ⟨by kernel_rfl, ?_⟩
   refine x8x rfl (fun hc20 => ?_) (fun hc20 => ?_)
   rotate_left
   ·simp at hc20
   try simp at hc20
   try have hX : ¬ a6v l = true := by first | exact hc20 | simpa using hc20
   refine x4x x7x (by rfl) ?_
   refine x2x rfl ?_
   refine y0y ⟨.inr rfl, ?_⟩
   clear hK17 K17 hK14 K14
   refine z0z rfl ?_ rfl
   exact congrArg (fun b : Bool => [AV.pv (.bool b)]) (a7j (fun h => by obtain ⟨q1, q2, q3, q4, q5, q6, q7, q8, q9⟩ := h; have := (q8 _ _ hl).1; rw [hq] at this; exact hX (Option.some.inj this).symm))
  try simp at hg18
  have hpe : l.proc = q := by exact hg18
  refine y1y rfl v2v rfl rfl rfl ?_
  refine y5y rfl rfl ?_
  refine y7y rfl rfl rfl (c2b ..) ?_
  refine y5y rfl rfl ?_
  refine w2w rfl ?_
  refine y2y rfl rfl ?_
  refine ⟨by kernel_rfl, ?_⟩
  refine x8x rfl (fun hc19 => ?_) (fun hc19 => ?_)
  rotate_left
  ·try simp at hc19
   have hlo : a6v l = true := by exact hc19
   refine x9x ?_
   refine hK17 _ _ ?_
   clear hK17 K17
   refine y4y x7x (by rfl) ?_
   refine u1u (b := 1) rfl rfl (by omega) ?_
   refine x1x rfl ?_
   exact ⟨j + 1, ⟨⟨by omega, a4h b2 hl ⟨by rw [hq, hpe], hlo⟩⟩, by omega⟩, [0, 0, _], (Cov.cons (t := 63) rfl Cov.nil), (Cov.cons (t := 1) rfl (Cov.cons (t := 5) rfl (Cov.cons (t := 61) rfl (Cov.cons (t := 62) rfl Cov.nil)))), (HE.kill rfl HE.nil), (HE.same (id := 0) rfl (HE.same (id := 1) rfl (HE.same (id := 3) rfl HE.nil))), rfl⟩
  try simp at hc19
  try have hX : ¬ a6v l = true := by simpa using hc19
  refine x4x x7x (by rfl) ?_
  refine x2x rfl ?_
  refine y0y ⟨.inr rfl, ?_⟩
  clear hK17 K17 hK14 K14
  refine z0z rfl ?_ rfl
  exact congrArg (fun b : Bool => [AV.pv (.bool b)]) (a7j (fun h => by obtain ⟨q1, q2, q3, q4, q5, q6, q7, q8, q9⟩ := h; exact hX (q8 _ _ hl).2))
 try simp at hc16
 have hN : d2x n := a6p b2 (by omega)
 refine v0v ?_
 refine hK14 _ _ ?_
 clear hK15 K15 hK14 K14
 refine x5x fun K21 hK21 => ?_
 refine x4x x7x (by rfl) ?_
 refine x0x rfl z5z rfl rfl p8p rfl rfl ?_
 refine x3x rfl p8p rfl rfl ?_
 refine u2u rfl p8p rfl ?_
 refine x1x rfl ?_
 refine y6y ?_
 refine w9w 82 rfl fun hlen2 => ?_
 refine u4u (ι := Nat) (fun k γ3 => [(84, .pv (.int .i64 (k : Int)))]) (fun k γ3 => [(3, ((γ3 3), .dead))]) (fun k => k ≤ n.views.length ∧ c7y n.views (fun j v => ∀ k, n.known[j]? = some k → d1v v ∧ 0 ≤ k ∧ k ≤ 41) k) (fun k => n.views.length - k) (Cov.cons (t := 1) rfl (Cov.cons (t := 82) rfl (Cov.cons (t := 83) rfl Cov.nil))) (HE.same (id := 0) rfl (HE.same (id := 1) rfl (HE.same (id := 2) rfl HE.nil))) 0 ⟨by omega, a4g⟩ [0, 0, 0, _] (Cov.cons (t := 84) rfl Cov.nil) (HE.kill rfl HE.nil) rfl fun k γ3 hi => ?_
 try dsimp only [List.cons_append, List.nil_append]
 obtain ⟨c1, c2⟩ := hi
 refine x4x x7x (by rfl) ?_
 refine y3y rfl rfl rfl ?_
 refine x5x fun K22 hK22 => ?_
 refine x8x rfl (fun hc23 => ?_) (fun hc23 => ?_)
 rotate_left
 ·try simp at hc23
  have hV : d2w n := fun i v k0 a b => a6p c2 (by omega) i v a k0 b
  refine v0v ?_
  refine hK21 _ _ ?_
  clear hK22 K22 hK21 K21
  refine x4x x7x (by rfl) ?_
  refine x2x rfl ?_
  refine y0y ⟨.inr rfl, ?_⟩
  refine z0z rfl ?_ rfl
  exact congrArg (fun b : Bool => [AV.pv (.bool b)]) (d4g ⟨hA1, hA2, hA3, hO, hL.1, hL.2.1, hL.2.2, hN, hV⟩)
 try simp at hc23
 obtain ⟨v, hv⟩ : ∃ v, n.views[k]? = some v := ⟨_, List.getElem?_eq_getElem (by omega)⟩
 obtain ⟨k0, hk⟩ : ∃ k0, n.known[k]? = some k0 := ⟨_, List.getElem?_eq_getElem (by omega)⟩
 refine x9x ?_
 refine hK22 _ _ ?_
 clear hK22 K22
 refine x5x fun K24 hK24 => ?_
 refine y6y ?_
 refine x4x x7x (by rfl) ?_
 refine x1x rfl ?_
 refine z7z rfl rfl p8p rfl w5w rfl (by assumption) ?_
 refine z6z rfl w5w rfl rfl ?_
 refine u9u (id := 3) w5w b0t rfl ?_
 refine x2x rfl ?_
 refine z2z rfl rfl w5w rfl rfl rfl rfl ?_
 refine a9l (ι := Unit) (fun _i γ4 => [(10, .pv (.bool (kb (d1v v))))]) (fun _i γ4 => []) (fun _i => True) (Cov.cons (t := 1) rfl (Cov.cons (t := 8) rfl (Cov.cons (t := 82) rfl (Cov.cons (t := 83) rfl (Cov.cons (t := 84) rfl Cov.nil))))) (HE.same (id := 0) rfl (HE.same (id := 1) rfl (HE.same (id := 2) rfl (HE.same (id := 3) rfl HE.nil)))) ?_ fun _i γ4 hi => ?_
 ·refine y4y x7x (by rfl) ?_
  refine x0x rfl w5w rfl rfl y9y rfl rfl ?_
  refine x3x rfl y9y rfl rfl ?_
  refine y7y rfl rfl rfl (w8w ..) ?_
  refine x1x rfl ?_
  refine s9s rfl rfl (fun hg25 => ?_) (fun hg25 => ?_)
  rotate_left
  ·try simp at hg25
   refine x6x rfl rfl ?_
   refine x6x rfl rfl ?_
   refine y2y rfl rfl ?_
   refine x1x rfl ?_
   refine x6x rfl rfl ?_
   refine x6x rfl rfl ?_
   refine x6x rfl rfl ?_
   refine y2y rfl rfl ?_
   refine x2x rfl ?_
   exact ⟨(), trivial, [], (Cov.cons' (t := 10) rfl (by exact congrArg (fun b : Bool => AV.pv (.bool b)) (a7j (fun h => by obtain ⟨q1, q2, q3⟩ := h; omega))) Cov.nil), (Cov.cons (t := 1) rfl (Cov.cons (t := 8) rfl (Cov.cons (t := 82) rfl (Cov.cons (t := 83) rfl (Cov.cons (t := 84) rfl Cov.nil))))), HE.nil, (HE.same (id := 0) rfl (HE.same (id := 1) rfl (HE.same (id := 2) rfl (HE.same (id := 3) rfl HE.nil)))), rfl⟩
  try simp at hg25
  refine x0x rfl w5w rfl rfl y9y rfl rfl ?_
  refine y5y rfl rfl ?_
  refine x3x rfl y9y rfl rfl ?_
  refine y5y rfl rfl ?_
  refine y7y rfl rfl rfl (w8w ..) ?_
  refine y8y rfl rfl ?_
  refine x1x rfl ?_
  refine s9s rfl rfl (fun hg26 => ?_) (fun hg26 => ?_)
  rotate_left
  ·try simp at hg26
   refine x6x rfl rfl ?_
   refine x6x rfl rfl ?_
   refine y2y rfl rfl ?_
   refine x2x rfl ?_
   exact ⟨(), trivial, [], (Cov.cons' (t := 10) rfl (by exact congrArg (fun b : Bool => AV.pv (.bool b)) (a7j (fun h => by obtain ⟨q1, q2, q3⟩ := h; omega))) Cov.nil), (Cov.cons (t := 1) rfl (Cov.cons (t := 8) rfl (Cov.cons (t := 82) rfl (Cov.cons (t := 83) rfl (Cov.cons (t := 84) rfl Cov.nil))))), HE.nil, (HE.same (id := 0) rfl (HE.same (id := 1) rfl (HE.same (id := 2) rfl (HE.same (id := 3) rfl HE.nil)))), rfl⟩
  try simp at hg26
  refine x0x rfl w5w rfl rfl u6u rfl rfl ?_
  refine y5y rfl rfl ?_
  refine x3x rfl u6u rfl rfl ?_
  refine y5y rfl rfl ?_
  refine y7y rfl rfl rfl (a6e ..) ?_
  refine y8y rfl rfl ?_
  refine x2x rfl ?_
  exact ⟨(), trivial, [], (Cov.cons' (t := 10) rfl (by exact congrArg (fun b : Bool => AV.pv (.bool b)) (d7o ⟨fun h => ⟨by omega, by omega, h⟩, fun h => h.2.2⟩)) Cov.nil), (Cov.cons (t := 1) rfl (Cov.cons (t := 8) rfl (Cov.cons (t := 82) rfl (Cov.cons (t := 83) rfl (Cov.cons (t := 84) rfl Cov.nil))))), HE.nil, (HE.same (id := 0) rfl (HE.same (id := 1) rfl (HE.same (id := 2) rfl (HE.same (id := 3) rfl HE.nil)))), rfl⟩
 ·try dsimp only [List.cons_append, List.nil_append]
  refine x4x x7x (by rfl) ?_
  refine x1x rfl ?_
  refine w2w rfl ?_
  refine x1x rfl ?_
  refine s9s rfl rfl (fun hg27 => ?_) (fun hg27 => ?_)
  rotate_left
  ·try simp at hg27
   have hX : ¬ d1v v := a4z (by simpa using hg27)
   refine x6x rfl rfl ?_
   refine x6x rfl rfl ?_
   refine x6x rfl rfl ?_
   refine x6x rfl rfl ?_
   refine x6x rfl rfl ?_
   refine x6x rfl rfl ?_
   refine y8y rfl rfl ?_
   refine x8x rfl (fun hc29 => ?_) (fun hc29 => ?_)
   rotate_left
   ·simp at hc29
   try simp at hc29
   refine x4x x7x (by rfl) ?_
   refine x2x rfl ?_
   refine y0y ⟨.inr rfl, ?_⟩
   clear hK24 K24 hK21 K21
   refine z0z rfl ?_ rfl
   exact congrArg (fun b : Bool => [AV.pv (.bool b)]) (a7j (fun h => by obtain ⟨q1, q2, q3, q4, q5, q6, q7, q8, q9⟩ := h; exact hX (q9 _ _ _ hv hk).1))
  try simp at hg27
  have hvo : d1v v := b0v.1 (by simpa using hg27)
  refine x0x rfl z5z rfl rfl p3p rfl rfl ?_
  refine y5y rfl rfl ?_
  refine x3x rfl p3p rfl rfl ?_
  refine y5y rfl rfl ?_
  refine x1x rfl ?_
  refine y5y rfl rfl ?_
  refine z7z rfl rfl p3p rfl y9y rfl (by assumption) ?_
  refine y5y rfl rfl ?_
  refine z3z rfl y9y rfl ?_
  refine y5y rfl rfl ?_
  refine y7y rfl rfl rfl (w8w ..) ?_
  refine y5y rfl rfl ?_
  refine w2w rfl ?_
  refine y2y rfl rfl ?_
  refine x8x rfl (fun hc28 => ?_) (fun hc28 => ?_)
  rotate_left
  ·try simp at hc28
   refine x9x ?_
   refine hK24 _ _ ?_
   clear hK24 K24
   refine y4y x7x (by rfl) ?_
   refine u1u (b := 1) rfl rfl (by omega) ?_
   refine x1x rfl ?_
   exact ⟨k + 1, ⟨⟨by omega, a4h c2 hv (fun k2 hk2 => by rw [hk] at hk2; cases hk2; exact ⟨hvo, by omega⟩)⟩, by omega⟩, [0, 0, 0, _], (Cov.cons (t := 84) rfl Cov.nil), (Cov.cons (t := 1) rfl (Cov.cons (t := 82) rfl (Cov.cons (t := 83) rfl Cov.nil))), (HE.kill rfl HE.nil), (HE.same (id := 0) rfl (HE.same (id := 1) rfl (HE.same (id := 2) rfl HE.nil))), rfl⟩
  try simp at hc28
  refine x4x x7x (by rfl) ?_
  refine x2x rfl ?_
  refine y0y ⟨.inr rfl, ?_⟩
  clear hK24 K24 hK21 K21
  refine z0z rfl ?_ rfl
  exact congrArg (fun b : Bool => [AV.pv (.bool b)]) (a7j (fun h => by obtain ⟨q1, q2, q3, q4, q5, q6, q7, q8, q9⟩ := h; have := (q9 _ _ _ hv hk).2; omega))
end
section
theorem b5d (c : Bool) (p : Pa) (ps : List Pa) : Meth Tryz.prog 216 1 [0] [.ptr 0 0 0, .agg (a2j c p)] [(0, (0, .chn 240 243 ((ps).map (a2j c))))] (.tup []) [(0, (0, .chn 240 243 ((ps ++ [p]).map (a2j c))))] := by
 refine u8u x7x (fn := Tryz.f216) (by kernel_rfl) (by kernel_rfl) rfl (O0 := []) 1 2 (Nat.le_of_ble_eq_true rfl) (by rfl) (by repeat (first | exact BndH.nil | refine BndH.chn ?_)) (by repeat (first | exact BndH.nil | refine BndH.chn ?_)) (by rfl) fun γ => ?_
 show Ex Tryz.prog _ _ [(0, .ptr 0 (γ 0) 0), (1, .agg (a2j c p))] [(0, ((γ 0), .chn 240 243 ((ps).map (a2j c)))), (2, (0, .dead)), (1, (0, .dead))] _
 refine d5l ?_
 refine d3y 0 rfl fun b0 bs hbl hbn => ?_
 have hbl2 : bs.length = ps.length := by rw [hbl, List.length_map]
 refine x4x x7x (by rfl) ?_
 refine v5v (id := 1) rfl rfl rfl ?_
 refine x4x x7x (by rfl) ?_
 refine y1y rfl v8v rfl rfl rfl ?_
 refine s5s c5x rfl d6z rfl (by simp only [pI, v8v, T78, a4f, d8m, a2g, q9q, AV.okc, AV.one, Value.oneCell', List.map_cons, List.map_nil, List.getElem?_cons_zero, List.getElem?_cons_succ, List.take_succ_cons, List.take_zero, List.drop_succ_cons, List.drop_zero, List.cons_append, List.nil_append, List.length_cons, List.length_nil, if_true, and_self, Nat.reduceAdd, Nat.reduceLeDiff]; rfl) ?_
 refine v5v (id := 2) rfl rfl rfl ?_
 refine x2x rfl ?_
 refine x5x fun K1 hK1 => ?_
 refine c9x 4 0 2 rfl rfl (by intro h; cases h) rfl rfl rfl fun bn hbn2 => ?_
 refine x4x x7x (by rfl) ?_
 refine x1x rfl ?_
 refine v9v rfl rfl ?_
 refine x0x rfl b6e rfl rfl a4f rfl rfl ?_
 refine c0q x7x (out := .pv (b0m bs.getLast?)) rfl a4f rfl rfl ?_
 refine b1l rfl rfl (by intro a c h h2; cases h; cases h2; rfl) (.inl rfl) (c9o (by kernel_rfl) _ _ _) ?_
 refine x8x rfl (fun hc2 => ?_) (fun hc2 => ?_)
 ·try simp at hc2
  obtain rfl : bs = [] := by cases bs with | nil => rfl | cons b r => (simp [List.getLast?_cons, a3q] at hc2)
  obtain rfl : ps = [] := List.eq_nil_of_length_eq_zero (by simpa using hbl2.symm)
  refine y4y x7x (by rfl) ?_
  refine x1x rfl ?_
  refine x1x rfl ?_
  refine v9v rfl rfl ?_
  refine x0x rfl b6e rfl rfl a4f rfl rfl ?_
  refine b6r x7x rfl rfl a4f rfl rfl rfl rfl rfl ?_
  refine hK1 _ _ ?_
  clear hK1 K1
  refine y4y x7x (by rfl) ?_
  refine x1x rfl ?_
  refine x1x rfl ?_
  refine v9v rfl rfl ?_
  refine x0x rfl b6e rfl rfl a4f rfl rfl ?_
  refine b6r x7x rfl rfl a4f rfl rfl rfl rfl rfl ?_
  refine Conv.step (c0o 0 b0 240 243 ([bn]) ([a2j c p]) rfl rfl rfl) (Conv.done ?_)
  exact ⟨.inl rfl, [γ 0], rfl, rfl, HE.same rfl HE.nil⟩
 try simp at hc2
 obtain ⟨bs0, bl, rfl⟩ := c9v (l := bs) (by exact hc2)
 obtain ⟨ps0, pl, rfl⟩ := c9v (l := ps) (by rintro rfl; simp at hbl2)
 refine y4y x7x (by rfl) ?_
 refine x1x rfl ?_
 refine v9v rfl rfl ?_
 refine x0x rfl b6e rfl rfl a4f rfl rfl ?_
 refine c0q x7x (out := PQ bl 0) rfl a4f rfl (by rw [List.getLast?_concat]; rfl) ?_
 refine x1x rfl ?_
 refine c5a rfl ?_
 refine a5d x7x rfl c5x rfl rfl a4f rfl ?_
 refine c9y x7x (bty := 243) ((b0, 240, [.pv (b0m (bs0 ++ [bl]).head?), .pv (b0m (bs0 ++ [bl]).getLast?)]) :: b8y 243 (some bl) bs0 (ps0.map (a2j c))) [(bn, 243, a2j c p ++ [.pv (.pointer none)])] (cs := a2j c pl ++ [.pv (.pointer none)]) 0 rfl rfl a4f rfl rfl rfl (by rw [chB, List.map_append, List.map_cons, List.map_nil, c3a (by rw [List.length_map]; simpa using hbl2)]; simp [b0m]) (Nat.le_of_ble_eq_true rfl) rfl ?_
 refine hK1 _ _ ?_
 clear hK1 K1
 refine y4y x7x (by rfl) ?_
 refine x1x rfl ?_
 refine x1x rfl ?_
 refine v9v rfl rfl ?_
 refine x0x rfl b6e rfl rfl a4f rfl rfl ?_
 refine b6r x7x rfl rfl a4f rfl rfl rfl rfl rfl ?_
 refine Conv.step (c0o 0 b0 240 243 (bs0 ++ [bl] ++ [bn]) (((ps0 ++ [pl]) ++ [p]).map (a2j c)) rfl (by simp at hbl2 ⊢; exact hbl2) (by rw [List.map_append, List.map_cons (l := []), List.map_nil, d2r (by rw [List.length_map]; exact hbl2), List.map_append, List.map_cons, List.map_nil, c3a (by rw [List.length_map]; simpa using hbl2)]; cases bs0 <;> simp [b0m] <;> rfl)) (Conv.done ?_)
 exact ⟨.inl rfl, [γ 0], rfl, rfl, HE.same rfl HE.nil⟩
theorem b1f (c : Bool) (l : List Pa) : Meth Tryz.prog 150 1 [] [a4j c l] [(0, (0, .dead))] (.ptr 0 0 0) [(0, (0, .chn 240 243 ((l).map (a2j c))))] := by
 refine u8u x7x (fn := Tryz.f150) (by kernel_rfl) (by kernel_rfl) rfl (O0 := [.ptr 0 0 0]) 1 1 (Nat.le_of_ble_eq_true rfl) (by rfl) (by repeat (first | exact BndH.nil | refine BndH.dead ?_)) (by repeat (first | exact BndH.nil | refine BndH.chn ?_)) (by rfl) fun γ => ?_
 show Ex Tryz.prog _ _ [(0, a4j c l)] [(0, ((γ 0), .dead)), (1, (0, .dead))] _
 refine w9w 0 rfl fun hlen => ?_
 refine x4x x7x (by rfl) ?_
 refine x2x rfl ?_
 refine x4x x7x (by rfl) ?_
 refine s5s b6e rfl d6y rfl (by simp only [pI, a2g, q9q, AV.okc, AV.one, T3, T4, List.getElem?_cons_zero, List.getElem?_cons_succ, List.take_succ_cons, List.take_zero, List.drop_succ_cons, List.drop_zero, List.cons_append, List.nil_append, List.length_cons, List.length_nil, if_true, and_self, Nat.reduceAdd, Nat.reduceLeDiff]; rfl) ?_
 refine v5v (id := 0) rfl rfl rfl ?_
 refine x2x rfl ?_
 refine x5x fun K1 hK1 => ?_
 refine x4x x7x (by rfl) ?_
 refine x1x rfl ?_
 refine u2u rfl v3v rfl ?_
 refine x1x rfl ?_
 refine y6y ?_
 refine c9w 0 243 rfl ?_
 refine u4u (ι := Nat) (fun i γ1 => [(10, .pv (.int .i64 (i : Int)))]) (fun i γ1 => [(0, ((γ 0 + 1), .chn 240 243 ((l.take i).map (a2j c)))), (1, ((γ1 1), .dead))]) (fun i => i ≤ l.length) (fun i => l.length - i) (Cov.cons (t := 3) rfl (Cov.cons (t := 8) rfl (Cov.cons (t := 9) rfl Cov.nil))) HE.nil 0 (by omega) [0, _] (Cov.cons (t := 10) rfl Cov.nil) (HE.chn rfl (by rw [List.take_zero]; rfl) (HE.kill rfl HE.nil)) rfl fun i γ1 hi => ?_
 try dsimp only [List.cons_append, List.nil_append]
 refine x4x x7x (by rfl) ?_
 refine y3y rfl rfl rfl ?_
 refine x5x fun K2 hK2 => ?_
 refine x8x rfl (fun hc3 => ?_) (fun hc3 => ?_)
 rotate_left
 ·try simp at hc3
  obtain rfl : i = l.length := by omega
  refine v0v ?_
  refine hK1 _ _ ?_
  clear hK2 K2 hK1 K1
  refine x4x x7x (by rfl) ?_
  refine x1x rfl ?_
  refine x2x rfl ?_
  refine y0y ?_
  rw [List.take_length]
  exact ⟨.inr rfl, [_], rfl, rfl, HE.same rfl HE.nil⟩
 try simp at hc3
 obtain ⟨p, hp⟩ : ∃ p, l[i]? = some p := ⟨_, List.getElem?_eq_getElem (by omega)⟩
 refine x9x ?_
 refine hK2 _ _ ?_
 clear hK2 K2
 refine x5x fun K4 hK4 => ?_
 refine y6y ?_
 refine x4x x7x (by rfl) ?_
 refine z7z rfl rfl v3v rfl v8v rfl (by assumption) ?_
 refine z6z rfl v8v rfl rfl ?_
 refine u9u (id := 1) v8v b6f rfl ?_
 refine z2z rfl rfl v8v rfl rfl rfl rfl ?_
 refine y4y x7x (by rfl) ?_
 refine x1x rfl ?_
 refine y1y rfl v8v rfl rfl rfl ?_
 refine v4v [0] [_] (b5d c p (l.take i)) rfl rfl rfl (by decide) rfl rfl (by repeat (first | exact InH.nil | refine InH.cons rfl ?_)) (by (simp only [pI, List.map_cons, List.map_nil, z8z, z9z, gl, nx, p4p, Nat.beq, Nat.add_eq, List.getD_cons_zero, List.getD_cons_succ, List.getD_nil, Bool.or_false, Bool.false_or, Bool.true_or, Bool.or_true, Nat.add_zero, Nat.zero_add]; rfl)) (by (simp only [pI, List.map_cons, List.map_nil, z8z, z9z, gl, nx, p4p, Nat.beq, Nat.add_eq, List.getD_cons_zero, List.getD_cons_succ, List.getD_nil, Bool.or_false, Bool.false_or, Bool.true_or, Bool.or_true, Nat.add_zero, Nat.zero_add]; rfl)) ?_
 refine hK4 _ _ ?_
 clear hK4 K4
 refine y4y x7x (by rfl) ?_
 refine u1u (b := 1) rfl rfl (by omega) ?_
 refine x1x rfl ?_
 exact ⟨i + 1, ⟨by omega, by omega⟩, [0, _], (Cov.cons (t := 10) rfl Cov.nil), (Cov.cons (t := 3) rfl (Cov.cons (t := 8) rfl (Cov.cons (t := 9) rfl Cov.nil))), (HE.chn rfl (by rw [p1p hp]) (HE.kill rfl HE.nil)), HE.nil, rfl⟩
theorem a4l (c c' : Bool) (ps : List Pa) (s : List Ev) : Meth Tryz.prog 151 1 [0] [.ptr 0 0 0, a0i c' s] [(0, (0, .chn 240 243 ((ps).map (a2j c))))] (.pv (.int .i64 (same ps s : Int))) [] := by
 refine u8u x7x (fn := Tryz.f151) (by kernel_rfl) (by kernel_rfl) rfl (O0 := [.pv (.int .i64 (same ps s : Int))]) 1 0 (Nat.le_of_ble_eq_true rfl) (by rfl) (by repeat (first | exact BndH.nil | refine BndH.chn ?_)) (by repeat (exact BndH.nil)) (by rfl) fun γ => ?_
 show Ex Tryz.prog _ _ [(0, .ptr 0 (γ 0) 0), (1, a0i c' s)] [(0, ((γ 0), .chn 240 243 ((ps).map (a2j c))))] _
 refine w9w 1 rfl fun hlen => ?_
 refine d3y 0 rfl fun b0 bs hbl hbn => ?_
 have hbl2 : bs.length = ps.length := by rw [hbl, List.length_map]
 refine x4x x7x (by rfl) ?_
 refine x2x rfl ?_
 refine x4x x7x (by rfl) ?_
 refine x2x rfl ?_
 refine x5x fun K1 hK1 => ?_
 refine x4x x7x (by rfl) ?_
 refine x1x rfl ?_
 refine v9v rfl rfl ?_
 refine x0x rfl b6e rfl rfl a4f rfl rfl ?_
 refine c0q x7x (out := .pv (b0m bs.head?)) rfl a4f rfl rfl ?_
 refine x2x rfl ?_
 refine y6y ?_
 refine u4u (ι := Nat) (fun i γ1 => [(5, .pv (.int .i64 (i : Int))), (6, .pv (b0m bs[i]?))]) (fun i γ1 => []) (fun i => i ≤ ps.length ∧ i ≤ s.length ∧ same ps s = i + same (ps.drop i) (s.drop i)) (fun i => ps.length - i) (Cov.cons (t := 1) rfl Cov.nil) (HE.same (id := 0) rfl HE.nil) 0 ⟨by omega, by omega, by rw [List.drop_zero, List.drop_zero, Nat.zero_add]⟩ [] (Cov.cons (t := 5) rfl (Cov.cons' (t := 6) rfl ((by rw [List.head?_eq_getElem?])) Cov.nil)) HE.nil rfl fun i γ1 hi => ?_
 try dsimp only [List.cons_append, List.nil_append]
 obtain ⟨h1, h2, h3⟩ := hi
 refine x5x fun K2 hK2 => ?_
 refine p6p x7x r2r (by rfl) ?_
 refine x1x rfl ?_
 refine b1l rfl rfl (by intro a c h h2; cases h; cases h2; rfl) (.inr rfl) (c9o (by kernel_rfl) _ _ _) ?_
 refine x1x rfl ?_
 refine s9s rfl rfl (fun hg3 => ?_) (fun hg3 => ?_)
 rotate_left
 ·try simp at hg3
  have g1 : ps.length ≤ i := by omega
  refine x6x rfl rfl ?_
  refine x6x rfl rfl ?_
  refine x6x rfl rfl ?_
  refine y2y rfl rfl ?_
  refine x1x rfl ?_
  refine x6x rfl rfl ?_
  refine x6x rfl rfl ?_
  refine x6x rfl rfl ?_
  refine x6x rfl rfl ?_
  refine x6x rfl rfl ?_
  refine x6x rfl rfl ?_
  refine x6x rfl rfl ?_
  refine x6x rfl rfl ?_
  refine x6x rfl rfl ?_
  refine x6x rfl rfl ?_
  refine y2y rfl rfl ?_
  refine ⟨by kernel_rfl, ?_⟩
  refine x8x rfl (fun hc8 => ?_) (fun hc8 => ?_)
  ·simp at hc8
  try simp at hc8
  try have heq : ¬ p.ev = e := by simpa [a3q] using hc8
  refine v0v ?_
  refine hK1 _ _ ?_
  clear hK2 K2 hK1 K1
  refine x4x x7x (by rfl) ?_
  refine x1x rfl ?_
  refine x2x rfl ?_
  refine c0p 0 b0 240 243 (bs) (ps.map (a2j c)) rfl hbl rfl ?_
  refine y0y ?_
  refine ⟨.inr rfl, [γ 0], rfl, ?_, HE.same rfl HE.nil⟩
  exact congrArg (fun v : Nat => some [AV.pv (.int .i64 (v : Int))]) (h3.trans (by rw [c3n g1]; rfl)).symm
 try simp at hg3
 obtain ⟨b, hb⟩ : ∃ b, bs[i]? = some b := ⟨_, List.getElem?_eq_getElem (by omega)⟩
 rw [hb]
 have g1 : i < ps.length := by have := (List.getElem?_eq_some_iff.1 hb).1; omega
 obtain ⟨p, hp⟩ : ∃ p, ps[i]? = some p := ⟨_, List.getElem?_eq_getElem (by omega)⟩
 refine x1x rfl ?_
 refine y5y rfl rfl ?_
 refine x1x rfl ?_
 refine y5y rfl rfl ?_
 refine u2u rfl u6u rfl ?_
 refine y5y rfl rfl ?_
 refine y3y rfl rfl rfl ?_
 refine y8y rfl rfl ?_
 refine x1x rfl ?_
 refine s9s rfl rfl (fun hg4 => ?_) (fun hg4 => ?_)
 rotate_left
 ·try simp at hg4
  have g2 : s.length ≤ i := by omega
  refine x6x rfl rfl ?_
  refine x6x rfl rfl ?_
  refine x6x rfl rfl ?_
  refine x6x rfl rfl ?_
  refine x6x rfl rfl ?_
  refine x6x rfl rfl ?_
  refine x6x rfl rfl ?_
  refine x6x rfl rfl ?_
  refine x6x rfl rfl ?_
  refine y2y rfl rfl ?_
  refine ⟨by kernel_rfl, ?_⟩
  refine x8x rfl (fun hc7 => ?_) (fun hc7 => ?_)
  ·simp at hc7
  try simp at hc7
  try have heq : ¬ p.ev = e := by simpa [a3q] using hc7
  refine v0v ?_
  refine hK1 _ _ ?_
  clear hK2 K2 hK1 K1
  refine x4x x7x (by rfl) ?_
  refine x1x rfl ?_
  refine x2x rfl ?_
  refine c0p 0 b0 240 243 (bs) (ps.map (a2j c)) rfl hbl rfl ?_
  refine y0y ?_
  refine ⟨.inr rfl, [γ 0], rfl, ?_, HE.same rfl HE.nil⟩
  exact congrArg (fun v : Nat => some [AV.pv (.int .i64 (v : Int))]) (h3.trans (by rw [c3o g2]; rfl)).symm
 try simp at hg4
 have g2 : i < s.length := by omega
 obtain ⟨e, he⟩ : ∃ e, s[i]? = some e := ⟨_, List.getElem?_eq_getElem (by omega)⟩
 refine x1x rfl ?_
 refine y5y rfl rfl ?_
 refine c5a rfl ?_
 refine y5y rfl rfl ?_
 refine a5d x7x rfl c5x rfl rfl v8v rfl ?_
 refine y5y rfl rfl ?_
 refine a5d x7x rfl v8v rfl rfl z1z rfl ?_
 refine y5y rfl rfl ?_
 refine c6g x7x (out := .agg (w0w p.ev)) 0 rfl z1z rfl (c9u hbl hb (d1j hp)) rfl ?_
 refine y5y rfl rfl ?_
 refine x1x rfl ?_
 refine y5y rfl rfl ?_
 refine x1x rfl ?_
 refine y5y rfl rfl ?_
 refine z7z rfl rfl u6u rfl z1z rfl he ?_
 refine y5y rfl rfl ?_
 refine z3z (out := .agg (w0w e)) rfl z1z rfl ?_
 refine y5y rfl rfl ?_
 refine b1l rfl rfl (by intro a c h; cases h) (.inl rfl) (d8v _ _ _ _) ?_
 refine y8y rfl rfl ?_
 refine ⟨by kernel_rfl, ?_⟩
 refine x8x rfl (fun hc5 => ?_) (fun hc5 => ?_)
 rotate_left
 ·try simp at hc5
  try have heq : ¬ p.ev = e := by simpa [a3q] using hc5
  refine v0v ?_
  refine hK1 _ _ ?_
  clear hK2 K2 hK1 K1
  refine x4x x7x (by rfl) ?_
  refine x1x rfl ?_
  refine x2x rfl ?_
  refine c0p 0 b0 240 243 (bs) (ps.map (a2j c)) rfl hbl rfl ?_
  refine y0y ?_
  refine ⟨.inr rfl, [γ 0], rfl, ?_, HE.same rfl HE.nil⟩
  exact congrArg (fun v : Nat => some [AV.pv (.int .i64 (v : Int))]) (h3.trans (by rw [c3m hp he heq]; rfl)).symm
 try simp at hc5
 try have heq : p.ev = e := by simpa [a3q] using hc5
 refine x9x ?_
 refine hK2 _ _ ?_
 clear hK2 K2
 refine x5x fun K6 hK6 => ?_
 refine y6y ?_
 refine y4y x7x (by rfl) ?_
 refine x1x rfl ?_
 refine u1u (b := 1) rfl rfl (by omega) ?_
 refine x2x rfl ?_
 refine hK6 _ _ ?_
 clear hK6 K6
 refine y4y x7x (by rfl) ?_
 refine x1x rfl ?_
 refine c5a rfl ?_
 refine a5d x7x rfl c5x rfl rfl a4f rfl ?_
 refine c6g x7x (out := .pv (b0m bs[i + 1]?)) 0 rfl a4f rfl (c9u hbl hb (d1j hp)) rfl ?_
 refine x2x rfl ?_
 exact ⟨i + 1, ⟨⟨by omega, by omega, by rw [h3, c3l hp he heq]; omega⟩, by omega⟩, [], (Cov.cons (t := 5) rfl (Cov.cons (t := 6) rfl Cov.nil)), (Cov.cons (t := 1) rfl Cov.nil), HE.nil, (HE.same (id := 0) rfl HE.nil), rfl⟩
end
section
theorem b3k (c : Bool) (n : Nd) : a0o Tryz.prog 61 [.agg (a1d c n)] (.pv (.bool (kb (a0r n)))) := by
 refine z4z x7x (fn := Tryz.f61) (by kernel_rfl) (by kernel_rfl) rfl (outs := [.pv (.bool (kb (a0r n)))]) (by rfl) (Nat.le_of_ble_eq_true rfl) 8 ?_
 have hpl := a5v n.id 4
 refine x4x x7x (by rfl) ?_
 refine v5v (id := 0) rfl rfl rfl ?_
 refine x2x rfl ?_
 refine x5x fun K1 hK1 => ?_
 refine x4x x7x (by rfl) ?_
 refine y1y rfl z5z rfl rfl rfl ?_
 refine y7y rfl rfl rfl (b8s ..) ?_
 refine w2w rfl ?_
 refine x8x rfl (fun hc2 => ?_) (fun hc2 => ?_)
 ·try simp at hc2
  try have hX : ¬ a1v n := a4z (by simpa using hc2)
  refine x4x x7x (by rfl) ?_
  refine x2x rfl ?_
  refine y0y ⟨.inr rfl, ?_⟩
  clear hK1 K1
  refine z0z rfl ?_ rfl
  exact congrArg (fun b : Bool => [AV.pv (.bool b)]) (a7j (fun h => hX h.1))
 try simp at hc2
 have fS : a1v n := b0v.1 (by simpa using hc2)
 have fB := s6s fS
 have fL := fS.2.2.2.2.1
 have fV := fS.2.2.2.2.2.1
 refine x9x ?_
 refine hK1 _ _ ?_
 clear hK1 K1
 refine x4x x7x (by rfl) ?_
 refine y1y rfl z5z rfl rfl rfl ?_
 refine v4v [1, 2, 3, 4, 5] [_, _, _, _, _] (b3g c n (by omega) (by omega) fS.2.2.2.2.2.2.1) rfl rfl rfl (by decide) rfl rfl (by repeat (first | exact InH.nil | refine InH.cons rfl ?_)) (by (simp only [pI, List.map_cons, List.map_nil, z8z, z9z, gl, nx, p4p, Nat.beq, Nat.add_eq, List.getD_cons_zero, List.getD_cons_succ, List.getD_nil, Bool.or_false, Bool.false_or, Bool.true_or, Bool.or_true, Nat.add_zero, Nat.zero_add]; rfl)) (by (simp only [pI, List.map_cons, List.map_nil, z8z, z9z, gl, nx, p4p, Nat.beq, Nat.add_eq, List.getD_cons_zero, List.getD_cons_succ, List.getD_nil, Bool.or_false, Bool.false_or, Bool.true_or, Bool.or_true, Nat.add_zero, Nat.zero_add]; rfl)) ?_
 refine x2x rfl ?_
 refine x5x fun K3 hK3 => ?_
 refine x4x x7x (by rfl) ?_
 refine x0x rfl z5z rfl rfl y9y rfl rfl ?_
 refine x3x rfl y9y rfl rfl ?_
 refine y7y rfl rfl rfl (a3z ..) ?_
 refine u2u rfl p3p rfl ?_
 refine x1x rfl ?_
 refine y6y ?_
 refine u4u (ι := Nat) (fun j γ1 => [(16, .pv (.int .i64 (j : Int)))]) (fun j γ1 => [(6, ((γ1 6), .dead)), (7, ((γ1 7), .dead))]) (fun j => j ≤ (a1c n.id 4).length ∧ c7y n.lanes (fun j l => ∀ p, (a1c n.id 4)[j]? = some p → l.done.length ≤ same l.done (a0u n p) ∧ (a0u n p).length ≤ 100) j) (fun j => (a1c n.id 4).length - j) (Cov.cons (t := 3) rfl (Cov.cons (t := 14) rfl (Cov.cons (t := 15) rfl Cov.nil))) (HE.same (id := 0) rfl (HE.same (id := 1) rfl (HE.same (id := 2) rfl (HE.same (id := 3) rfl (HE.same (id := 4) rfl (HE.same (id := 5) rfl HE.nil)))))) 0 ⟨by omega, a4g⟩ [0, 0, 0, 0, 0, 0, _, _] (Cov.cons (t := 16) rfl Cov.nil) (HE.kill rfl (HE.kill rfl HE.nil)) rfl fun j γ1 hi => ?_
 try dsimp only [List.cons_append, List.nil_append]
 obtain ⟨d1, d2⟩ := hi
 refine x4x x7x (by rfl) ?_
 refine y3y rfl rfl rfl ?_
 refine x5x fun K4 hK4 => ?_
 refine x8x rfl (fun hc5 => ?_) (fun hc5 => ?_)
 rotate_left
 ·try simp at hc5
  have fC := fun (i : Nat) p l (a : (a1c n.id 4)[i]? = some p) (b : n.lanes[i]? = some l) => a6p d2 (by omega) i l b p a
  refine v0v ?_
  refine hK3 _ _ ?_
  clear hK4 K4 hK3 K3
  refine x4x x7x (by rfl) ?_
  refine x2x rfl ?_
  refine y0y ⟨.inr rfl, ?_⟩
  refine z0z rfl ?_ rfl
  exact congrArg (fun b : Bool => [AV.pv (.bool b)]) (d4g ⟨fS, fC⟩)
 try simp at hc5
 obtain ⟨l, hl⟩ : ∃ l, n.lanes[j]? = some l := ⟨_, List.getElem?_eq_getElem (by omega)⟩
 obtain ⟨p, hp⟩ : ∃ p, (a1c n.id 4)[j]? = some p := ⟨_, List.getElem?_eq_getElem (by omega)⟩
 obtain ⟨hdl, _⟩ := a2i (fS.2.2.2.2.2.2.2.1 j l hl).2
 refine x9x ?_
 refine hK4 _ _ ?_
 clear hK4 K4
 refine x5x fun K6 hK6 => ?_
 refine y6y ?_
 refine x4x x7x (by rfl) ?_
 refine x1x rfl ?_
 refine z7z rfl rfl p3p rfl y9y rfl hp ?_
 refine z3z rfl y9y rfl ?_
 refine x2x rfl ?_
 refine x2x rfl ?_
 refine x4x x7x (by rfl) ?_
 refine x1x rfl ?_
 refine x1x rfl ?_
 refine v4v [1, 2, 3, 4, 5, 6] [_, _, _, _, _, _] (a8y c n p (b3z fS) (by omega) fS.2.2.2.2.2.1) rfl rfl rfl (by decide) rfl rfl (by repeat (first | exact InH.nil | refine InH.cons rfl ?_)) (by (simp only [pI, List.map_cons, List.map_nil, z8z, z9z, gl, nx, p4p, Nat.beq, Nat.add_eq, List.getD_cons_zero, List.getD_cons_succ, List.getD_nil, Bool.or_false, Bool.false_or, Bool.true_or, Bool.or_true, Nat.add_zero, Nat.zero_add]; rfl)) (by (simp only [pI, List.map_cons, List.map_nil, z8z, z9z, gl, nx, p4p, Nat.beq, Nat.add_eq, List.getD_cons_zero, List.getD_cons_succ, List.getD_nil, Bool.or_false, Bool.false_or, Bool.true_or, Bool.or_true, Nat.add_zero, Nat.zero_add]; rfl)) ?_
 refine x2x rfl ?_
 refine a0y 6 rfl rfl (fun _ => rfl) ?_
 refine p6p x7x r2r (by rfl) ?_
 refine x1x rfl ?_
 refine u2u rfl u6u rfl ?_
 refine y3y rfl rfl rfl ?_
 refine x1x rfl ?_
 refine s9s rfl rfl (fun hg7 => ?_) (fun hg7 => ?_)
 rotate_left
 ·try simp at hg7
  refine x6x rfl rfl ?_
  refine x6x rfl rfl ?_
  refine x6x rfl rfl ?_
  refine x6x rfl rfl ?_
  refine x6x rfl rfl ?_
  refine x6x rfl rfl ?_
  refine x6x rfl rfl ?_
  refine x6x rfl rfl ?_
  refine x6x rfl rfl ?_
  refine x6x rfl rfl ?_
  refine x6x rfl rfl ?_
  refine x6x rfl rfl ?_
  refine x6x rfl rfl ?_
  refine x6x rfl rfl ?_
  refine x6x rfl rfl ?_
  refine x6x rfl rfl ?_
  refine x6x rfl rfl ?_
  refine x6x rfl rfl ?_
  refine y8y rfl rfl ?_
  refine ⟨by kernel_rfl, ?_⟩
  refine x8x rfl (fun hc9 => ?_) (fun hc9 => ?_)
  rotate_left
  ·simp at hc9
  try simp at hc9
  refine x4x x7x (by rfl) ?_
  refine x2x rfl ?_
  refine y0y ⟨.inr rfl, ?_⟩
  clear hK6 K6 hK3 K3
  refine z0z rfl ?_ rfl
  exact congrArg (fun b : Bool => [AV.pv (.bool b)]) (a7j (fun h => by have := h.2 _ _ _ hp hl; omega))
 try simp at hg7
 refine x1x rfl ?_
 refine y5y rfl rfl ?_
 refine v9v rfl rfl ?_
 refine y5y rfl rfl ?_
 refine x0x rfl s0s rfl rfl a2q rfl rfl ?_
 refine y5y rfl rfl ?_
 refine x3x rfl a2q rfl rfl ?_
 refine y5y rfl rfl ?_
 refine x1x rfl ?_
 refine y5y rfl rfl ?_
 refine w7w (j := j) rfl rfl a2q rfl v3v rfl rfl (a0e hl) ?_
 refine y5y rfl rfl ?_
 refine a8h rfl v3v rfl hl rfl ?_
 refine y5y rfl rfl ?_
 refine v4v [7] [_] (b1f c l.done) rfl rfl rfl (by decide) rfl rfl (by repeat (first | exact InH.nil | refine InH.cons rfl ?_)) (by (simp only [pI, List.map_cons, List.map_nil, z8z, z9z, gl, nx, p4p, Nat.beq, Nat.add_eq, List.getD_cons_zero, List.getD_cons_succ, List.getD_nil, Bool.or_false, Bool.false_or, Bool.true_or, Bool.or_true, Nat.add_zero, Nat.zero_add]; rfl)) (by (simp only [pI, List.map_cons, List.map_nil, z8z, z9z, gl, nx, p4p, Nat.beq, Nat.add_eq, List.getD_cons_zero, List.getD_cons_succ, List.getD_nil, Bool.or_false, Bool.false_or, Bool.true_or, Bool.or_true, Nat.add_zero, Nat.zero_add]; rfl)) ?_
 refine y5y rfl rfl ?_
 refine x1x rfl ?_
 refine y5y rfl rfl ?_
 refine v4v [7] [_] (a4l c true l.done (a0u n p)) rfl rfl rfl (by decide) rfl rfl (by repeat (first | exact InH.nil | refine InH.cons rfl ?_)) (by (simp only [pI, List.map_cons, List.map_nil, z8z, z9z, gl, nx, p4p, Nat.beq, Nat.add_eq, List.getD_cons_zero, List.getD_cons_succ, List.getD_nil, Bool.or_false, Bool.false_or, Bool.true_or, Bool.or_true, Nat.add_zero, Nat.zero_add]; rfl)) (by (simp only [pI, List.map_cons, List.map_nil, z8z, z9z, gl, nx, p4p, Nat.beq, Nat.add_eq, List.getD_cons_zero, List.getD_cons_succ, List.getD_nil, Bool.or_false, Bool.false_or, Bool.true_or, Bool.or_true, Nat.add_zero, Nat.zero_add]; rfl)) ?_
 refine y5y rfl rfl ?_
 refine x1x rfl ?_
 refine y5y rfl rfl ?_
 refine v9v rfl rfl ?_
 refine y5y rfl rfl ?_
 refine x0x rfl s0s rfl rfl a2q rfl rfl ?_
 refine y5y rfl rfl ?_
 refine x3x rfl a2q rfl rfl ?_
 refine y5y rfl rfl ?_
 refine x1x rfl ?_
 refine y5y rfl rfl ?_
 refine w7w (j := j) rfl rfl a2q rfl v3v rfl rfl (a0e hl) ?_
 refine y5y rfl rfl ?_
 refine a8h rfl v3v rfl hl rfl ?_
 refine y5y rfl rfl ?_
 refine u2u rfl v3v rfl ?_
 refine y5y rfl rfl ?_
 refine y3y rfl rfl rfl ?_
 refine y2y rfl rfl ?_
 refine ⟨by kernel_rfl, ?_⟩
 refine x8x rfl (fun hc8 => ?_) (fun hc8 => ?_)
 rotate_left
 ·try simp at hc8
  refine x9x ?_
  refine hK6 _ _ ?_
  clear hK6 K6
  refine y4y x7x (by rfl) ?_
  refine u1u (b := 1) rfl rfl (by omega) ?_
  refine x1x rfl ?_
  exact ⟨j + 1, ⟨⟨by omega, a4h d2 hl (fun p2 hp2 => by rw [hp] at hp2; cases hp2; omega)⟩, by omega⟩, [0, 0, 0, 0, 0, 0, _, _], (Cov.cons (t := 16) rfl Cov.nil), (Cov.cons (t := 3) rfl (Cov.cons (t := 14) rfl (Cov.cons (t := 15) rfl Cov.nil))), (HE.kill rfl (HE.kill rfl HE.nil)), (HE.same (id := 0) rfl (HE.same (id := 1) rfl (HE.same (id := 2) rfl (HE.same (id := 3) rfl (HE.same (id := 4) rfl (HE.same (id := 5) rfl HE.nil)))))), rfl⟩
 try simp at hc8
 refine x4x x7x (by rfl) ?_
 refine x2x rfl ?_
 refine y0y ⟨.inr rfl, ?_⟩
 clear hK6 K6 hK3 K3
 refine z0z rfl ?_ rfl
 exact congrArg (fun b : Bool => [AV.pv (.bool b)]) (a7j (fun h => by have := h.2 _ _ _ hp hl; omega))
end
section
theorem b7q (c : Bool) (p : Pa) (hs : p.sends.length ≤ 1048576) (ho : p.outs.length ≤ 1048576) : Meth Tryz.prog 199 2 [] [.agg (a2j c p)] [(0, (0, .dead)), (1, (0, .dead))] (.agg [pI p.ev.time, pI p.ev.to, pI p.ev.from', pI p.ev.count, pI p.ev.n, pI p.ev.kind, pI p.ev.arg, pI p.after.x, pI p.after.y, pI p.after.count, .ref 0 0, .ref 1 0]) [(0, (0, .row 76 7 (p.sends.map w0w))), (1, (0, .row 104 5 (p.outs.map r0r)))] := by
 refine u8u x7x (fn := Tryz.f199) (by kernel_rfl) (by kernel_rfl) rfl (O0 := [.agg [pI p.ev.time, pI p.ev.to, pI p.ev.from', pI p.ev.count, pI p.ev.n, pI p.ev.kind, pI p.ev.arg, pI p.after.x, pI p.after.y, pI p.after.count, .ref 0 0, .ref 1 0]]) 2 2 (Nat.le_of_ble_eq_true rfl) (by rfl) (by repeat (first | exact BndH.nil | refine BndH.dead ?_)) (by repeat (first | exact BndH.nil | refine BndH.row (u3u fun _ => rfl) ?_)) (by rfl) fun γ => ?_
 show Ex Tryz.prog _ _ [(0, .agg (a2j c p))] [(0, ((γ 0), .dead)), (1, ((γ 1), .dead)), (3, (0, .dead)), (2, (0, .dead))] _
 refine x4x x7x (by rfl) ?_
 refine v5v (id := 2) rfl rfl rfl ?_
 refine u9u (id := 3) v8v b6f rfl ?_
 refine x4x x7x (by rfl) ?_
 refine x0x rfl v8v rfl rfl u6u rfl rfl ?_
 refine x3x rfl u6u rfl rfl ?_
 refine v4v [0] [_] (p7p c p.sends (by omega)) rfl rfl rfl (by decide) rfl rfl (by repeat (first | exact InH.nil | refine InH.cons rfl ?_)) (by (simp only [pI, List.map_cons, List.map_nil, z8z, z9z, gl, nx, p4p, Nat.beq, Nat.add_eq, List.getD_cons_zero, List.getD_cons_succ, List.getD_nil, Bool.or_false, Bool.false_or, Bool.true_or, Bool.or_true, Nat.add_zero, Nat.zero_add]; rfl)) (by (simp only [pI, List.map_cons, List.map_nil, z8z, z9z, gl, nx, p4p, Nat.beq, Nat.add_eq, List.getD_cons_zero, List.getD_cons_succ, List.getD_nil, Bool.or_false, Bool.false_or, Bool.true_or, Bool.or_true, Nat.add_zero, Nat.zero_add]; rfl)) ?_
 refine x0x rfl v8v rfl rfl u6u rfl rfl ?_
 refine u5u rfl rfl u6u rfl rfl rfl rfl rfl (by simp only [List.set_cons_zero, List.set_cons_succ]; rfl) ?_
 refine x4x x7x (by rfl) ?_
 refine x0x rfl v8v rfl rfl u7u rfl rfl ?_
 refine x3x rfl u7u rfl rfl ?_
 refine v4v [1] [_] (a0c c p.outs (by omega)) rfl rfl rfl (by decide) rfl rfl (by repeat (first | exact InH.nil | refine InH.cons rfl ?_)) (by (simp only [pI, List.map_cons, List.map_nil, z8z, z9z, gl, nx, p4p, Nat.beq, Nat.add_eq, List.getD_cons_zero, List.getD_cons_succ, List.getD_nil, Bool.or_false, Bool.false_or, Bool.true_or, Bool.or_true, Nat.add_zero, Nat.zero_add]; rfl)) (by (simp only [pI, List.map_cons, List.map_nil, z8z, z9z, gl, nx, p4p, Nat.beq, Nat.add_eq, List.getD_cons_zero, List.getD_cons_succ, List.getD_nil, Bool.or_false, Bool.false_or, Bool.true_or, Bool.or_true, Nat.add_zero, Nat.zero_add]; rfl)) ?_
 refine x0x rfl v8v rfl rfl u7u rfl rfl ?_
 refine u5u rfl rfl u7u rfl rfl rfl rfl rfl (by simp only [List.set_cons_zero, List.set_cons_succ]; rfl) ?_
 refine x4x x7x (by rfl) ?_
 refine y1y rfl v8v rfl rfl rfl ?_
 refine z2z rfl rfl v8v rfl rfl rfl rfl ?_
 refine y0y ?_
 exact ⟨.inr rfl, [_, _], rfl, rfl, HE.row rfl rfl (HE.row rfl rfl HE.nil)⟩
theorem a6y (c : Bool) (l : List Pa) (hl : c0y l ≤ 1048576) : Meth Tryz.prog 198 1 [] [a4j c l, .fn (.func 199) [] []] [(0, (0, .dead))] (.ref 0 0) [(0, (0, .row 78 12 (l.map a2l)))] := by
 refine u8u x7x (fn := Tryz.f198) (by kernel_rfl) (by kernel_rfl) rfl (O0 := [.ref 0 0]) 1 3 (Nat.le_of_ble_eq_true rfl) (by rfl) (by repeat (first | exact BndH.nil | refine BndH.dead ?_)) (by repeat (first | exact BndH.nil | refine BndH.row (u3u fun _ => rfl) ?_)) (by rfl) fun γ => ?_
 show Ex Tryz.prog _ _ [(0, a4j c l), (1, .fn (.func 199) [] [])] [(0, ((γ 0), .dead)), (3, (0, .dead)), (2, (0, .dead)), (1, (0, .dead))] _
 have hc : c0y l = l.length + szs cPa l := rfl
 refine w9w 0 rfl fun hlen => ?_
 refine x4x x7x (by rfl) ?_
 refine x2x rfl ?_
 refine x5x fun K1 hK1 => ?_
 refine x4x x7x (by rfl) ?_
 refine x1x rfl ?_
 refine u2u rfl v3v rfl ?_
 refine y3y rfl rfl rfl ?_
 refine x8x rfl (fun hc2 => ?_) (fun hc2 => ?_)
 ·try simp at hc2
  obtain rfl : l = [] := List.eq_nil_of_length_eq_zero (by simpa using hc2)
  refine x4x x7x (by rfl) ?_
  refine x2x rfl ?_
  refine a2d 4 0 78 12 rfl rfl ?_
  refine y0y ?_
  exact ⟨.inr rfl, [_], rfl, rfl, HE.row rfl rfl HE.nil⟩
 try simp at hc2
 refine x9x ?_
 refine hK1 _ _ ?_
 clear hK1 K1
 refine x4x x7x (by rfl) ?_
 refine x1x rfl ?_
 refine u2u rfl v3v rfl ?_
 refine a5o (id := 0) v3v rfl v8v b6f rfl rfl rfl rfl (by (simp only [List.length_map, List.length_append, List.length_cons, List.length_nil, List.length_take, List.length_range, T78]; omega)) rfl ?_
 refine x2x rfl ?_
 refine x5x fun K3 hK3 => ?_
 refine x4x x7x (by rfl) ?_
 refine x1x rfl ?_
 refine u2u rfl v3v rfl ?_
 refine x1x rfl ?_
 refine y6y ?_
 refine u4u (ι := Nat) (fun i γ1 => [(16, .pv (.int .i64 (i : Int)))]) (fun i γ1 => [(2, ((γ1 2), .dead)), (3, ((γ1 3), .dead)), (0, ((γ 0 + 1), .row 78 12 ((l.take i).map a2l ++ (l.drop i).map fun _ => [pI 0, pI 0, pI 0, pI 0, pI 0, pI 0, pI 0, pI 0, pI 0, pI 0, .pv (.slice none 0 0), .pv (.slice none 0 0)]))), (1, ((γ1 1), .dead))]) (fun i => i ≤ l.length) (fun i => l.length - i) (Cov.cons (t := 1) rfl (Cov.cons (t := 5) rfl (Cov.cons (t := 14) rfl (Cov.cons (t := 15) rfl Cov.nil)))) HE.nil 0 (by omega) [0, _, _, _] (Cov.cons (t := 16) rfl Cov.nil) (HE.kill rfl (HE.kill rfl (HE.row rfl (by rw [List.take_zero, List.drop_zero, List.map_const']; rfl) (HE.kill rfl HE.nil)))) rfl fun i γ1 hi => ?_
 try dsimp only [List.cons_append, List.nil_append]
 refine x4x x7x (by rfl) ?_
 refine y3y rfl rfl rfl ?_
 refine x5x fun K4 hK4 => ?_
 refine x8x rfl (fun hc5 => ?_) (fun hc5 => ?_)
 rotate_left
 ·try simp at hc5
  obtain rfl : i = l.length := by omega
  refine v0v ?_
  refine hK3 _ _ ?_
  clear hK4 K4 hK3 K3
  refine x4x x7x (by rfl) ?_
  refine x1x rfl ?_
  refine x2x rfl ?_
  refine y0y ?_
  exact ⟨.inr rfl, [_], rfl, rfl, HE.row rfl (by rw [List.take_length, List.drop_length, List.map_nil, List.append_nil]) HE.nil⟩
 try simp at hc5
 obtain ⟨p, hp⟩ : ∃ p, l[i]? = some p := ⟨_, List.getElem?_eq_getElem (by omega)⟩
 have hAl : ((l.take i).map a2l).length = i := by rw [List.length_map, List.length_take]; omega
 rw [q2q hp, List.map_cons]
 have hat := a2t cPa hp
 have hcp : cPa p = p.sends.length + p.outs.length := rfl
 refine x9x ?_
 refine hK4 _ _ ?_
 clear hK4 K4
 refine x5x fun K6 hK6 => ?_
 refine y6y ?_
 refine x4x x7x (by rfl) ?_
 refine x1x rfl ?_
 refine z7z rfl rfl v3v rfl v8v rfl (by assumption) ?_
 refine z6z rfl v8v rfl rfl ?_
 refine u9u (id := 1) v8v b6f rfl ?_
 refine x2x rfl ?_
 refine z2z rfl rfl v8v rfl rfl rfl rfl ?_
 refine y4y x7x (by rfl) ?_
 refine x1x rfl ?_
 refine x1x rfl ?_
 refine x1x rfl ?_
 refine y1y rfl v8v rfl rfl rfl ?_
 refine v4v [2, 3] [_, _] (b7q c p (by omega) (by omega)) rfl rfl rfl (by decide) rfl rfl (by repeat (first | exact InH.nil | refine InH.cons rfl ?_)) (by (simp only [pI, List.map_cons, List.map_nil, z8z, z9z, gl, nx, p4p, Nat.beq, Nat.add_eq, List.getD_cons_zero, List.getD_cons_succ, List.getD_nil, Bool.or_false, Bool.false_or, Bool.true_or, Bool.or_true, Nat.add_zero, Nat.zero_add]; rfl)) (by (simp only [pI, List.map_cons, List.map_nil, z8z, z9z, gl, nx, p4p, Nat.beq, Nat.add_eq, List.getD_cons_zero, List.getD_cons_succ, List.getD_nil, Bool.or_false, Bool.false_or, Bool.true_or, Bool.or_true, Nat.add_zero, Nat.zero_add]; rfl)) ?_
 refine q7q rfl rfl v3v rfl v8v rfl rfl hAl ?_
 refine a2h hAl rfl rfl v8v rfl rfl rfl rfl (d4k rfl rfl rfl) rfl ?_
 refine hK6 _ _ ?_
 clear hK6 K6
 refine y4y x7x (by rfl) ?_
 refine y3y rfl rfl rfl ?_
 refine x1x rfl ?_
 exact ⟨i + 1, ⟨by omega, by omega⟩, [0, _, _, _], (Cov.cons' (t := 16) rfl (by rw [v6v (by omega) (by omega)]; rfl) Cov.nil), (Cov.cons (t := 1) rfl (Cov.cons (t := 5) rfl (Cov.cons (t := 14) rfl (Cov.cons (t := 15) rfl Cov.nil)))), (HE.kill rfl (HE.kill rfl (HE.row rfl (by rw [p1p hp, List.map_append, List.append_assoc]; rfl) (HE.kill rfl HE.nil)))), HE.nil, rfl⟩
theorem b7r (c : Bool) (p : La) (hs : c0y p.done ≤ 1048576) : Meth Tryz.prog 125 1 [] [.agg (a0m c p)] [(0, (0, .dead))] (.agg [pI p.proc, pI p.base.x, pI p.base.y, pI p.base.count, .ref 0 0]) [(0, (0, .row 78 12 (p.done.map a2l)))] := by
 refine u8u x7x (fn := Tryz.f125) (by kernel_rfl) (by kernel_rfl) rfl (O0 := [.agg [pI p.proc, pI p.base.x, pI p.base.y, pI p.base.count, .ref 0 0]]) 1 2 (Nat.le_of_ble_eq_true rfl) (by rfl) (by repeat (first | exact BndH.nil | refine BndH.dead ?_)) (by repeat (first | exact BndH.nil | refine BndH.row (u3u fun _ => rfl) ?_)) (by rfl) fun γ => ?_
 show Ex Tryz.prog _ _ [(0, .agg (a0m c p))] [(0, ((γ 0), .dead)), (2, (0, .dead)), (1, (0, .dead))] _
 refine x4x x7x (by rfl) ?_
 refine v5v (id := 1) rfl rfl rfl ?_
 refine u9u (id := 2) v2v a6u rfl ?_
 refine x4x x7x (by rfl) ?_
 refine x0x rfl v2v rfl rfl v3v rfl rfl ?_
 refine x3x rfl v3v rfl rfl ?_
 refine v4v [0] [_] (a6y c p.done hs) rfl rfl rfl (by decide) rfl rfl (by repeat (first | exact InH.nil | refine InH.cons rfl ?_)) (by (simp only [pI, List.map_cons, List.map_nil, z8z, z9z, gl, nx, p4p, Nat.beq, Nat.add_eq, List.getD_cons_zero, List.getD_cons_succ, List.getD_nil, Bool.or_false, Bool.false_or, Bool.true_or, Bool.or_true, Nat.add_zero, Nat.zero_add]; rfl)) (by (simp only [pI, List.map_cons, List.map_nil, z8z, z9z, gl, nx, p4p, Nat.beq, Nat.add_eq, List.getD_cons_zero, List.getD_cons_succ, List.getD_nil, Bool.or_false, Bool.false_or, Bool.true_or, Bool.or_true, Nat.add_zero, Nat.zero_add]; rfl)) ?_
 refine x0x rfl v2v rfl rfl v3v rfl rfl ?_
 refine u5u rfl rfl v3v rfl rfl rfl rfl rfl (by simp only [List.set_cons_zero, List.set_cons_succ]; rfl) ?_
 refine x4x x7x (by rfl) ?_
 refine y1y rfl v2v rfl rfl rfl ?_
 refine z2z rfl rfl v2v rfl rfl rfl rfl ?_
 refine y0y ?_
 exact ⟨.inr rfl, [_], rfl, rfl, HE.row rfl rfl HE.nil⟩
theorem a6z (c : Bool) (l : List La) (hl : b4o l ≤ 1048576) : Meth Tryz.prog 171 1 [] [c1h c l, .fn (.func 125) [] []] [(0, (0, .dead))] (.ref 0 0) [(0, (0, .row 65 5 (l.map a1i)))] := by
 refine u8u x7x (fn := Tryz.f171) (by kernel_rfl) (by kernel_rfl) rfl (O0 := [.ref 0 0]) 1 2 (Nat.le_of_ble_eq_true rfl) (by rfl) (by repeat (first | exact BndH.nil | refine BndH.dead ?_)) (by repeat (first | exact BndH.nil | refine BndH.row (u3u fun _ => rfl) ?_)) (by rfl) fun γ => ?_
 show Ex Tryz.prog _ _ [(0, c1h c l), (1, .fn (.func 125) [] [])] [(0, ((γ 0), .dead)), (2, (0, .dead)), (1, (0, .dead))] _
 have hc : b4o l = l.length + szs cLa l := rfl
 refine w9w 0 rfl fun hlen => ?_
 refine x4x x7x (by rfl) ?_
 refine x2x rfl ?_
 refine x5x fun K1 hK1 => ?_
 refine x4x x7x (by rfl) ?_
 refine x1x rfl ?_
 refine u2u rfl w1w rfl ?_
 refine y3y rfl rfl rfl ?_
 refine x8x rfl (fun hc2 => ?_) (fun hc2 => ?_)
 ·try simp at hc2
  obtain rfl : l = [] := List.eq_nil_of_length_eq_zero (by simpa using hc2)
  refine x4x x7x (by rfl) ?_
  refine x2x rfl ?_
  refine a2d 4 0 65 5 rfl rfl ?_
  refine y0y ?_
  exact ⟨.inr rfl, [_], rfl, rfl, HE.row rfl rfl HE.nil⟩
 try simp at hc2
 refine x9x ?_
 refine hK1 _ _ ?_
 clear hK1 K1
 refine x4x x7x (by rfl) ?_
 refine x1x rfl ?_
 refine u2u rfl w1w rfl ?_
 refine a5o (id := 0) w1w rfl v2v a6u rfl rfl rfl rfl (by (simp only [List.length_map, List.length_append, List.length_cons, List.length_nil, List.length_take, List.length_range, T65]; omega)) rfl ?_
 refine x2x rfl ?_
 refine x5x fun K3 hK3 => ?_
 refine x4x x7x (by rfl) ?_
 refine x1x rfl ?_
 refine u2u rfl w1w rfl ?_
 refine x1x rfl ?_
 refine y6y ?_
 refine u4u (ι := Nat) (fun i γ1 => [(16, .pv (.int .i64 (i : Int)))]) (fun i γ1 => [(2, ((γ1 2), .dead)), (0, ((γ 0 + 1), .row 65 5 ((l.take i).map a1i ++ (l.drop i).map fun _ => [pI 0, pI 0, pI 0, pI 0, .pv (.slice none 0 0)]))), (1, ((γ1 1), .dead))]) (fun i => i ≤ l.length) (fun i => l.length - i) (Cov.cons (t := 1) rfl (Cov.cons (t := 5) rfl (Cov.cons (t := 14) rfl (Cov.cons (t := 15) rfl Cov.nil)))) HE.nil 0 (by omega) [0, _, _] (Cov.cons (t := 16) rfl Cov.nil) (HE.kill rfl (HE.row rfl (by rw [List.take_zero, List.drop_zero, List.map_const']; rfl) (HE.kill rfl HE.nil))) rfl fun i γ1 hi => ?_
 try dsimp only [List.cons_append, List.nil_append]
 refine x4x x7x (by rfl) ?_
 refine y3y rfl rfl rfl ?_
 refine x5x fun K4 hK4 => ?_
 refine x8x rfl (fun hc5 => ?_) (fun hc5 => ?_)
 rotate_left
 ·try simp at hc5
  obtain rfl : i = l.length := by omega
  refine v0v ?_
  refine hK3 _ _ ?_
  clear hK4 K4 hK3 K3
  refine x4x x7x (by rfl) ?_
  refine x1x rfl ?_
  refine x2x rfl ?_
  refine y0y ?_
  exact ⟨.inr rfl, [_], rfl, rfl, HE.row rfl (by rw [List.take_length, List.drop_length, List.map_nil, List.append_nil]) HE.nil⟩
 try simp at hc5
 obtain ⟨p, hp⟩ : ∃ p, l[i]? = some p := ⟨_, List.getElem?_eq_getElem (by omega)⟩
 have hAl : ((l.take i).map a1i).length = i := by rw [List.length_map, List.length_take]; omega
 rw [q2q hp, List.map_cons]
 have hat := a2t cLa hp
 have hcp : cLa p = c0y p.done := rfl
 refine x9x ?_
 refine hK4 _ _ ?_
 clear hK4 K4
 refine x5x fun K6 hK6 => ?_
 refine y6y ?_
 refine x4x x7x (by rfl) ?_
 refine x1x rfl ?_
 refine z7z rfl rfl w1w rfl v2v rfl (by assumption) ?_
 refine z6z rfl v2v rfl rfl ?_
 refine u9u (id := 1) v2v a6u rfl ?_
 refine x2x rfl ?_
 refine z2z rfl rfl v2v rfl rfl rfl rfl ?_
 refine y4y x7x (by rfl) ?_
 refine x1x rfl ?_
 refine x1x rfl ?_
 refine x1x rfl ?_
 refine y1y rfl v2v rfl rfl rfl ?_
 refine v4v [2] [_] (b7r c p (by omega)) rfl rfl rfl (by decide) rfl rfl (by repeat (first | exact InH.nil | refine InH.cons rfl ?_)) (by (simp only [pI, List.map_cons, List.map_nil, z8z, z9z, gl, nx, p4p, Nat.beq, Nat.add_eq, List.getD_cons_zero, List.getD_cons_succ, List.getD_nil, Bool.or_false, Bool.false_or, Bool.true_or, Bool.or_true, Nat.add_zero, Nat.zero_add]; rfl)) (by (simp only [pI, List.map_cons, List.map_nil, z8z, z9z, gl, nx, p4p, Nat.beq, Nat.add_eq, List.getD_cons_zero, List.getD_cons_succ, List.getD_nil, Bool.or_false, Bool.false_or, Bool.true_or, Bool.or_true, Nat.add_zero, Nat.zero_add]; rfl)) ?_
 refine q7q rfl rfl w1w rfl v2v rfl rfl hAl ?_
 refine a2h hAl rfl rfl v2v rfl rfl rfl rfl (d4l rfl) rfl ?_
 refine hK6 _ _ ?_
 clear hK6 K6
 refine y4y x7x (by rfl) ?_
 refine y3y rfl rfl rfl ?_
 refine x1x rfl ?_
 exact ⟨i + 1, ⟨by omega, by omega⟩, [0, _, _], (Cov.cons' (t := 16) rfl (by rw [v6v (by omega) (by omega)]; rfl) Cov.nil), (Cov.cons (t := 1) rfl (Cov.cons (t := 5) rfl (Cov.cons (t := 14) rfl (Cov.cons (t := 15) rfl Cov.nil)))), (HE.kill rfl (HE.row rfl (by rw [p1p hp, List.map_append, List.append_assoc]; rfl) (HE.kill rfl HE.nil))), HE.nil, rfl⟩
theorem b7s (c : Bool) (p : Vi) (hs : p.events.length ≤ 1048576) : Meth Tryz.prog 174 1 [] [.agg (a2n c p)] [(0, (0, .dead))] (.agg [pI p.inc, pI p.version, .ref 0 0]) [(0, (0, .row 76 7 (p.events.map w0w)))] := by
 refine u8u x7x (fn := Tryz.f174) (by kernel_rfl) (by kernel_rfl) rfl (O0 := [.agg [pI p.inc, pI p.version, .ref 0 0]]) 1 2 (Nat.le_of_ble_eq_true rfl) (by rfl) (by repeat (first | exact BndH.nil | refine BndH.dead ?_)) (by repeat (first | exact BndH.nil | refine BndH.row (u3u fun _ => rfl) ?_)) (by rfl) fun γ => ?_
 show Ex Tryz.prog _ _ [(0, .agg (a2n c p))] [(0, ((γ 0), .dead)), (2, (0, .dead)), (1, (0, .dead))] _
 refine x4x x7x (by rfl) ?_
 refine v5v (id := 1) rfl rfl rfl ?_
 refine u9u (id := 2) w5w b0t rfl ?_
 refine x4x x7x (by rfl) ?_
 refine x0x rfl w5w rfl rfl u6u rfl rfl ?_
 refine x3x rfl u6u rfl rfl ?_
 refine v4v [0] [_] (p7p c p.events (by omega)) rfl rfl rfl (by decide) rfl rfl (by repeat (first | exact InH.nil | refine InH.cons rfl ?_)) (by (simp only [pI, List.map_cons, List.map_nil, z8z, z9z, gl, nx, p4p, Nat.beq, Nat.add_eq, List.getD_cons_zero, List.getD_cons_succ, List.getD_nil, Bool.or_false, Bool.false_or, Bool.true_or, Bool.or_true, Nat.add_zero, Nat.zero_add]; rfl)) (by (simp only [pI, List.map_cons, List.map_nil, z8z, z9z, gl, nx, p4p, Nat.beq, Nat.add_eq, List.getD_cons_zero, List.getD_cons_succ, List.getD_nil, Bool.or_false, Bool.false_or, Bool.true_or, Bool.or_true, Nat.add_zero, Nat.zero_add]; rfl)) ?_
 refine x0x rfl w5w rfl rfl u6u rfl rfl ?_
 refine u5u rfl rfl u6u rfl rfl rfl rfl rfl (by simp only [List.set_cons_zero, List.set_cons_succ]; rfl) ?_
 refine x4x x7x (by rfl) ?_
 refine y1y rfl w5w rfl rfl rfl ?_
 refine z2z rfl rfl w5w rfl rfl rfl rfl ?_
 refine y0y ?_
 exact ⟨.inr rfl, [_], rfl, rfl, HE.row rfl rfl HE.nil⟩
theorem a7b (c : Bool) (l : List Vi) (hl : b9n l ≤ 1048576) : Meth Tryz.prog 173 1 [] [c1i c l, .fn (.func 174) [] []] [(0, (0, .dead))] (.ref 0 0) [(0, (0, .row 141 3 (l.map a1j)))] := by
 refine u8u x7x (fn := Tryz.f173) (by kernel_rfl) (by kernel_rfl) rfl (O0 := [.ref 0 0]) 1 2 (Nat.le_of_ble_eq_true rfl) (by rfl) (by repeat (first | exact BndH.nil | refine BndH.dead ?_)) (by repeat (first | exact BndH.nil | refine BndH.row (u3u fun _ => rfl) ?_)) (by rfl) fun γ => ?_
 show Ex Tryz.prog _ _ [(0, c1i c l), (1, .fn (.func 174) [] [])] [(0, ((γ 0), .dead)), (2, (0, .dead)), (1, (0, .dead))] _
 have hc : b9n l = l.length + szs cVi l := rfl
 refine w9w 0 rfl fun hlen => ?_
 refine x4x x7x (by rfl) ?_
 refine x2x rfl ?_
 refine x5x fun K1 hK1 => ?_
 refine x4x x7x (by rfl) ?_
 refine x1x rfl ?_
 refine u2u rfl p8p rfl ?_
 refine y3y rfl rfl rfl ?_
 refine x8x rfl (fun hc2 => ?_) (fun hc2 => ?_)
 ·try simp at hc2
  obtain rfl : l = [] := List.eq_nil_of_length_eq_zero (by simpa using hc2)
  refine x4x x7x (by rfl) ?_
  refine x2x rfl ?_
  refine a2d 4 0 141 3 rfl rfl ?_
  refine y0y ?_
  exact ⟨.inr rfl, [_], rfl, rfl, HE.row rfl rfl HE.nil⟩
 try simp at hc2
 refine x9x ?_
 refine hK1 _ _ ?_
 clear hK1 K1
 refine x4x x7x (by rfl) ?_
 refine x1x rfl ?_
 refine u2u rfl p8p rfl ?_
 refine a5o (id := 0) p8p rfl w5w b0t rfl rfl rfl rfl (by (simp only [List.length_map, List.length_append, List.length_cons, List.length_nil, List.length_take, List.length_range, T141]; omega)) rfl ?_
 refine x2x rfl ?_
 refine x5x fun K3 hK3 => ?_
 refine x4x x7x (by rfl) ?_
 refine x1x rfl ?_
 refine u2u rfl p8p rfl ?_
 refine x1x rfl ?_
 refine y6y ?_
 refine u4u (ι := Nat) (fun i γ1 => [(16, .pv (.int .i64 (i : Int)))]) (fun i γ1 => [(2, ((γ1 2), .dead)), (0, ((γ 0 + 1), .row 141 3 ((l.take i).map a1j ++ (l.drop i).map fun _ => [pI 0, pI 0, .pv (.slice none 0 0)]))), (1, ((γ1 1), .dead))]) (fun i => i ≤ l.length) (fun i => l.length - i) (Cov.cons (t := 1) rfl (Cov.cons (t := 5) rfl (Cov.cons (t := 14) rfl (Cov.cons (t := 15) rfl Cov.nil)))) HE.nil 0 (by omega) [0, _, _] (Cov.cons (t := 16) rfl Cov.nil) (HE.kill rfl (HE.row rfl (by rw [List.take_zero, List.drop_zero, List.map_const']; rfl) (HE.kill rfl HE.nil))) rfl fun i γ1 hi => ?_
 try dsimp only [List.cons_append, List.nil_append]
 refine x4x x7x (by rfl) ?_
 refine y3y rfl rfl rfl ?_
 refine x5x fun K4 hK4 => ?_
 refine x8x rfl (fun hc5 => ?_) (fun hc5 => ?_)
 rotate_left
 ·try simp at hc5
  obtain rfl : i = l.length := by omega
  refine v0v ?_
  refine hK3 _ _ ?_
  clear hK4 K4 hK3 K3
  refine x4x x7x (by rfl) ?_
  refine x1x rfl ?_
  refine x2x rfl ?_
  refine y0y ?_
  exact ⟨.inr rfl, [_], rfl, rfl, HE.row rfl (by rw [List.take_length, List.drop_length, List.map_nil, List.append_nil]) HE.nil⟩
 try simp at hc5
 obtain ⟨p, hp⟩ : ∃ p, l[i]? = some p := ⟨_, List.getElem?_eq_getElem (by omega)⟩
 have hAl : ((l.take i).map a1j).length = i := by rw [List.length_map, List.length_take]; omega
 rw [q2q hp, List.map_cons]
 have hat := a2t cVi hp
 have hcp : cVi p = p.events.length := rfl
 refine x9x ?_
 refine hK4 _ _ ?_
 clear hK4 K4
 refine x5x fun K6 hK6 => ?_
 refine y6y ?_
 refine x4x x7x (by rfl) ?_
 refine x1x rfl ?_
 refine z7z rfl rfl p8p rfl w5w rfl (by assumption) ?_
 refine z6z rfl w5w rfl rfl ?_
 refine u9u (id := 1) w5w b0t rfl ?_
 refine x2x rfl ?_
 refine z2z rfl rfl w5w rfl rfl rfl rfl ?_
 refine y4y x7x (by rfl) ?_
 refine x1x rfl ?_
 refine x1x rfl ?_
 refine x1x rfl ?_
 refine y1y rfl w5w rfl rfl rfl ?_
 refine v4v [2] [_] (b7s c p (by omega)) rfl rfl rfl (by decide) rfl rfl (by repeat (first | exact InH.nil | refine InH.cons rfl ?_)) (by (simp only [pI, List.map_cons, List.map_nil, z8z, z9z, gl, nx, p4p, Nat.beq, Nat.add_eq, List.getD_cons_zero, List.getD_cons_succ, List.getD_nil, Bool.or_false, Bool.false_or, Bool.true_or, Bool.or_true, Nat.add_zero, Nat.zero_add]; rfl)) (by (simp only [pI, List.map_cons, List.map_nil, z8z, z9z, gl, nx, p4p, Nat.beq, Nat.add_eq, List.getD_cons_zero, List.getD_cons_succ, List.getD_nil, Bool.or_false, Bool.false_or, Bool.true_or, Bool.or_true, Nat.add_zero, Nat.zero_add]; rfl)) ?_
 refine q7q rfl rfl p8p rfl w5w rfl rfl hAl ?_
 refine a2h hAl rfl rfl w5w rfl rfl rfl rfl (d4m rfl) rfl ?_
 refine hK6 _ _ ?_
 clear hK6 K6
 refine y4y x7x (by rfl) ?_
 refine y3y rfl rfl rfl ?_
 refine x1x rfl ?_
 exact ⟨i + 1, ⟨by omega, by omega⟩, [0, _, _], (Cov.cons' (t := 16) rfl (by rw [v6v (by omega) (by omega)]; rfl) Cov.nil), (Cov.cons (t := 1) rfl (Cov.cons (t := 5) rfl (Cov.cons (t := 14) rfl (Cov.cons (t := 15) rfl Cov.nil)))), (HE.kill rfl (HE.row rfl (by rw [p1p hp, List.map_append, List.append_assoc]; rfl) (HE.kill rfl HE.nil))), HE.nil, rfl⟩
theorem s2s (c : Bool) (n : Nd) (hl : cNd n ≤ 1048576) : Meth Tryz.prog 83 5 [] [.agg (a1d c n)] [(0, (0, .dead)), (1, (0, .dead)), (2, (0, .dead)), (3, (0, .dead)), (4, (0, .dead))] (.agg [pI n.id, .pv (.bool n.up), pI n.inc, pI n.g, .ref 0 0, .ref 1 0, .ref 2 0, pI n.led, pI n.version, .ref 3 0, .ref 4 0, pI n.round, pI n.low]) [(0, (0, .row 65 5 (n.lanes.map a1i))), (1, (0, .row 76 7 (n.kept.map w0w))), (2, (0, .row 104 5 (n.outs.map r0r))), (3, (0, .row 141 3 (n.views.map a1j))), (4, (0, .row 3 1 (n.known.map a2w)))] := by
 refine u8u x7x (fn := Tryz.f83) (by kernel_rfl) (by kernel_rfl) rfl (O0 := [.agg [pI n.id, .pv (.bool n.up), pI n.inc, pI n.g, .ref 0 0, .ref 1 0, .ref 2 0, pI n.led, pI n.version, .ref 3 0, .ref 4 0, pI n.round, pI n.low]]) 5 2 (Nat.le_of_ble_eq_true rfl) (by rfl) (by repeat (first | exact BndH.nil | refine BndH.dead ?_)) (by repeat (first | exact BndH.nil | refine BndH.row (u3u fun _ => rfl) ?_)) (by rfl) fun γ => ?_
 show Ex Tryz.prog _ _ [(0, .agg (a1d c n))] [(0, ((γ 0), .dead)), (1, ((γ 1), .dead)), (2, ((γ 2), .dead)), (3, ((γ 3), .dead)), (4, ((γ 4), .dead)), (6, (0, .dead)), (5, (0, .dead))] _
 have hc : cNd n = b4o n.lanes + n.kept.length + n.outs.length + b9n n.views + n.known.length := rfl
 refine x4x x7x (by rfl) ?_
 refine v5v (id := 5) rfl rfl rfl ?_
 refine u9u (id := 6) z5z a6g rfl ?_
 refine x4x x7x (by rfl) ?_
 refine x0x rfl z5z rfl rfl w1w rfl rfl ?_
 refine x3x rfl w1w rfl rfl ?_
 refine v4v [0] [_] (a6z c n.lanes (by omega)) rfl rfl rfl (by decide) rfl rfl (by repeat (first | exact InH.nil | refine InH.cons rfl ?_)) (by (simp only [pI, List.map_cons, List.map_nil, z8z, z9z, gl, nx, p4p, Nat.beq, Nat.add_eq, List.getD_cons_zero, List.getD_cons_succ, List.getD_nil, Bool.or_false, Bool.false_or, Bool.true_or, Bool.or_true, Nat.add_zero, Nat.zero_add]; rfl)) (by (simp only [pI, List.map_cons, List.map_nil, z8z, z9z, gl, nx, p4p, Nat.beq, Nat.add_eq, List.getD_cons_zero, List.getD_cons_succ, List.getD_nil, Bool.or_false, Bool.false_or, Bool.true_or, Bool.or_true, Nat.add_zero, Nat.zero_add]; rfl)) ?_
 refine x0x rfl z5z rfl rfl w1w rfl rfl ?_
 refine u5u rfl rfl w1w rfl rfl rfl rfl rfl (by simp only [List.set_cons_zero, List.set_cons_succ]; rfl) ?_
 refine x4x x7x (by rfl) ?_
 refine x0x rfl z5z rfl rfl u6u rfl rfl ?_
 refine x3x rfl u6u rfl rfl ?_
 refine v4v [1] [_] (p7p c n.kept (by omega)) rfl rfl rfl (by decide) rfl rfl (by repeat (first | exact InH.nil | refine InH.cons rfl ?_)) (by (simp only [pI, List.map_cons, List.map_nil, z8z, z9z, gl, nx, p4p, Nat.beq, Nat.add_eq, List.getD_cons_zero, List.getD_cons_succ, List.getD_nil, Bool.or_false, Bool.false_or, Bool.true_or, Bool.or_true, Nat.add_zero, Nat.zero_add]; rfl)) (by (simp only [pI, List.map_cons, List.map_nil, z8z, z9z, gl, nx, p4p, Nat.beq, Nat.add_eq, List.getD_cons_zero, List.getD_cons_succ, List.getD_nil, Bool.or_false, Bool.false_or, Bool.true_or, Bool.or_true, Nat.add_zero, Nat.zero_add]; rfl)) ?_
 refine x0x rfl z5z rfl rfl u6u rfl rfl ?_
 refine u5u rfl rfl u6u rfl rfl rfl rfl rfl (by simp only [List.set_cons_zero, List.set_cons_succ]; rfl) ?_
 refine x4x x7x (by rfl) ?_
 refine x0x rfl z5z rfl rfl u7u rfl rfl ?_
 refine x3x rfl u7u rfl rfl ?_
 refine v4v [2] [_] (a0c c n.outs (by omega)) rfl rfl rfl (by decide) rfl rfl (by repeat (first | exact InH.nil | refine InH.cons rfl ?_)) (by (simp only [pI, List.map_cons, List.map_nil, z8z, z9z, gl, nx, p4p, Nat.beq, Nat.add_eq, List.getD_cons_zero, List.getD_cons_succ, List.getD_nil, Bool.or_false, Bool.false_or, Bool.true_or, Bool.or_true, Nat.add_zero, Nat.zero_add]; rfl)) (by (simp only [pI, List.map_cons, List.map_nil, z8z, z9z, gl, nx, p4p, Nat.beq, Nat.add_eq, List.getD_cons_zero, List.getD_cons_succ, List.getD_nil, Bool.or_false, Bool.false_or, Bool.true_or, Bool.or_true, Nat.add_zero, Nat.zero_add]; rfl)) ?_
 refine x0x rfl z5z rfl rfl u7u rfl rfl ?_
 refine u5u rfl rfl u7u rfl rfl rfl rfl rfl (by simp only [List.set_cons_zero, List.set_cons_succ]; rfl) ?_
 refine x4x x7x (by rfl) ?_
 refine x0x rfl z5z rfl rfl p8p rfl rfl ?_
 refine x3x rfl p8p rfl rfl ?_
 refine v4v [3] [_] (a7b c n.views (by omega)) rfl rfl rfl (by decide) rfl rfl (by repeat (first | exact InH.nil | refine InH.cons rfl ?_)) (by (simp only [pI, List.map_cons, List.map_nil, z8z, z9z, gl, nx, p4p, Nat.beq, Nat.add_eq, List.getD_cons_zero, List.getD_cons_succ, List.getD_nil, Bool.or_false, Bool.false_or, Bool.true_or, Bool.or_true, Nat.add_zero, Nat.zero_add]; rfl)) (by (simp only [pI, List.map_cons, List.map_nil, z8z, z9z, gl, nx, p4p, Nat.beq, Nat.add_eq, List.getD_cons_zero, List.getD_cons_succ, List.getD_nil, Bool.or_false, Bool.false_or, Bool.true_or, Bool.or_true, Nat.add_zero, Nat.zero_add]; rfl)) ?_
 refine x0x rfl z5z rfl rfl p8p rfl rfl ?_
 refine u5u rfl rfl p8p rfl rfl rfl rfl rfl (by simp only [List.set_cons_zero, List.set_cons_succ]; rfl) ?_
 refine x4x x7x (by rfl) ?_
 refine x0x rfl z5z rfl rfl p3p rfl rfl ?_
 refine x3x rfl p3p rfl rfl ?_
 refine v4v [4] [_] (a9g c n.known (by omega)) rfl rfl rfl (by decide) rfl rfl (by repeat (first | exact InH.nil | refine InH.cons rfl ?_)) (by (simp only [pI, List.map_cons, List.map_nil, z8z, z9z, gl, nx, p4p, Nat.beq, Nat.add_eq, List.getD_cons_zero, List.getD_cons_succ, List.getD_nil, Bool.or_false, Bool.false_or, Bool.true_or, Bool.or_true, Nat.add_zero, Nat.zero_add]; rfl)) (by (simp only [pI, List.map_cons, List.map_nil, z8z, z9z, gl, nx, p4p, Nat.beq, Nat.add_eq, List.getD_cons_zero, List.getD_cons_succ, List.getD_nil, Bool.or_false, Bool.false_or, Bool.true_or, Bool.or_true, Nat.add_zero, Nat.zero_add]; rfl)) ?_
 refine x0x rfl z5z rfl rfl p3p rfl rfl ?_
 refine u5u rfl rfl p3p rfl rfl rfl rfl rfl (by simp only [List.set_cons_zero, List.set_cons_succ]; rfl) ?_
 refine x4x x7x (by rfl) ?_
 refine y1y rfl z5z rfl rfl rfl ?_
 refine z2z rfl rfl z5z rfl rfl rfl rfl ?_
 refine y0y ?_
 exact ⟨.inr rfl, [_, _, _, _, _], rfl, rfl, HE.row rfl rfl (HE.row rfl rfl (HE.row rfl rfl (HE.row rfl rfl (HE.row rfl rfl HE.nil))))⟩
end
section
theorem a3p (c : Bool) (n : Nd) (es : List (Value × AV)) (hes : ∀ p ∈ es, p.2.flatA = true) (i : Nat) (l : La) (hl : n.lanes[i]? = some l) (hp : (a1c n.id 4)[i]? = some l.proc) : Meth Tryz.prog 170 5 [0, 1, 2, 3, 4] [.ptr 4 0 0, .pv (.int .i64 (i : Int))] [(0, (0, .row 62 3 ((n.lanes).map fun l => a0b l.base))), (1, (0, .row 63 1 ((n.lanes).map fun l => [a4j c l.done]))), (2, (0, .map es)), (3, (0, .row 3 1 (n.known.map a2w))), (4, (0, .box 139 [pI n.id, pI n.inc, pI n.g, pI n.led, .ref 0 0, a0i c n.kept, a0z c n.outs, .pv (.bool n.up), .ref 1 0, pI n.version, .mp 2 0, .ref 3 0, pI n.round, pI n.low]))] (.agg (a0m c l)) [] := by
 refine u8u x7x (fn := Tryz.f170) (by kernel_rfl) (by kernel_rfl) rfl (O0 := [.agg (a0m c l)]) 5 1 (Nat.le_of_ble_eq_true rfl) (by rfl) (by repeat (first | exact BndH.nil | refine BndH.box rfl ?_ | refine BndH.row (u3u fun _ => rfl) ?_ | refine BndH.map hes ?_ )) (by repeat (exact BndH.nil )) (by rfl) fun γ => ?_
 show Ex Tryz.prog _ _ [(0, .ptr 4 (γ 4) 0), (1, .pv (.int .i64 (i : Int)))] [(0, ((γ 0), .row 62 3 ((n.lanes).map fun l => a0b l.base))), (1, ((γ 1), .row 63 1 ((n.lanes).map fun l => [a4j c l.done]))), (2, ((γ 2), .map es)), (3, ((γ 3), .row 3 1 (n.known.map a2w))), (4, ((γ 4), .box 139 [pI n.id, pI n.inc, pI n.g, pI n.led, .ref 0 (γ 0), a0i c n.kept, a0z c n.outs, .pv (.bool n.up), .ref 1 (γ 1), pI n.version, .mp 2 (γ 2), .ref 3 (γ 3), pI n.round, pI n.low])), (5, (0, .dead))] _
 refine x4x x7x (by rfl) ?_
 refine u9u (id := 5) v2v a6u rfl ?_
 refine p6p x7x r2r (by rfl) ?_
 refine x1x rfl ?_
 refine v9v rfl rfl ?_
 refine x0x rfl s0s rfl rfl r1r rfl rfl ?_
 refine x0x rfl r1r rfl rfl y9y rfl rfl ?_
 refine x3x rfl y9y rfl rfl ?_
 refine y7y rfl rfl rfl (a3z ..) ?_
 refine x1x rfl ?_
 refine z7z rfl rfl p3p rfl y9y rfl hp ?_
 refine z3z rfl y9y rfl ?_
 refine x1x rfl ?_
 refine v9v rfl rfl ?_
 refine x0x rfl s0s rfl rfl r1r rfl rfl ?_
 refine x0x rfl r1r rfl rfl a2k rfl rfl ?_
 refine x3x rfl a2k rfl rfl ?_
 refine x1x rfl ?_
 refine w7w (j := i) rfl rfl a2k rfl p5p rfl rfl (a0e hl) ?_
 refine q6q rfl p5p rfl hl rfl rfl ?_
 refine x1x rfl ?_
 refine v9v rfl rfl ?_
 refine x0x rfl s0s rfl rfl a2q rfl rfl ?_
 refine x3x rfl a2q rfl rfl ?_
 refine x1x rfl ?_
 refine w7w (j := i) rfl rfl a2q rfl v3v rfl rfl (a0e hl) ?_
 refine a8h rfl v3v rfl hl rfl ?_
 refine s5s v2v rfl a6u rfl (by simp only [pI, y9y, T3, p5p, T62, v3v, T63, a2g, q9q, AV.okc, AV.one, Value.oneCell', List.map_cons, List.map_nil, List.getElem?_cons_zero, List.getElem?_cons_succ, List.take_succ_cons, List.take_zero, List.drop_succ_cons, List.drop_zero, List.cons_append, List.nil_append, List.length_cons, List.length_nil, if_true, and_self, Nat.reduceAdd, Nat.reduceLeDiff]; rfl) ?_
 refine z2z rfl rfl v2v rfl rfl rfl rfl ?_
 refine ⟨by kernel_rfl, ?_⟩
 refine y0y ?_
 exact ⟨.inr rfl, [γ 0, γ 1, γ 2, γ 3, γ 4], rfl, rfl, (HE.same (id := 0) rfl (HE.same (id := 1) rfl (HE.same (id := 2) rfl (HE.same (id := 3) rfl (HE.same (id := 4) rfl HE.nil)))))⟩
set_option maxHeartbeats 1000000 in
theorem b3l (c : Bool) (n : Nd) (hlen : n.lanes.length ≤ 1048576) (hN : ∀ (i : Nat) l, n.lanes[i]? = some l → (a1c n.id 4)[i]? = some l.proc) (hv3 : n.views.length = 3) : Meth Tryz.prog 82 7 [0, 1, 2, 3, 4] [.ptr 4 0 0] [(0, (0, .row 62 3 ((n.lanes).map fun l => a0b l.base))), (1, (0, .row 63 1 ((n.lanes).map fun l => [a4j c l.done]))), (2, (0, .map (b0o c n.views))), (3, (0, .row 3 1 (n.known.map a2w))), (4, (0, .box 139 [pI n.id, pI n.inc, pI n.g, pI n.led, .ref 0 0, a0i c n.kept, a0z c n.outs, .pv (.bool n.up), .ref 1 0, pI n.version, .mp 2 0, .ref 3 0, pI n.round, pI n.low])), (5, (0, .dead)), (6, (0, .dead))] (.agg [pI n.id, .pv (.bool n.up), pI n.inc, pI n.g, .ref 5 0, a0i c n.kept, a0z c n.outs, pI n.led, pI n.version, .ref 6 0, .ref 3 0, pI n.round, pI n.low]) [(5, (0, .row 65 5 ((n.lanes).map (a0m c)))), (6, (0, .row 141 3 (n.views.map (a2n c))))] := by
 refine u8u x7x (fn := Tryz.f82) (by kernel_rfl) (by kernel_rfl) rfl (O0 := [.agg [pI n.id, .pv (.bool n.up), pI n.inc, pI n.g, .ref 5 0, a0i c n.kept, a0z c n.outs, pI n.led, pI n.version, .ref 6 0, .ref 3 0, pI n.round, pI n.low]]) 7 6 (Nat.le_of_ble_eq_true rfl) (by rfl) (by repeat (first | exact BndH.nil | refine BndH.dead ?_ | refine BndH.box rfl ?_ | refine BndH.row (u3u fun _ => rfl) ?_ | refine BndH.map (a0s _ _) ?_ )) (by repeat (first | exact BndH.nil | refine BndH.row (u3u fun _ => rfl) ?_ )) (by rfl) fun γ => ?_
 show Ex Tryz.prog _ _ [(0, .ptr 4 (γ 4) 0)] [(0, ((γ 0), .row 62 3 ((n.lanes).map fun l => a0b l.base))), (1, ((γ 1), .row 63 1 ((n.lanes).map fun l => [a4j c l.done]))), (2, ((γ 2), .map (b0o c n.views))), (3, ((γ 3), .row 3 1 (n.known.map a2w))), (4, ((γ 4), .box 139 [pI n.id, pI n.inc, pI n.g, pI n.led, .ref 0 (γ 0), a0i c n.kept, a0z c n.outs, .pv (.bool n.up), .ref 1 (γ 1), pI n.version, .mp 2 (γ 2), .ref 3 (γ 3), pI n.round, pI n.low])), (5, ((γ 5), .dead)), (6, ((γ 6), .dead)), (12, (0, .dead)), (11, (0, .dead)), (10, (0, .dead)), (9, (0, .dead)), (8, (0, .dead)), (7, (0, .dead))] _
 refine x4x x7x (by rfl) ?_
 refine u9u (id := 7) z5z a6g rfl ?_
 refine p6p x7x r2r (by rfl) ?_
 refine x1x rfl ?_
 refine v9v rfl rfl ?_
 refine x0x rfl s0s rfl rfl r1r rfl rfl ?_
 refine x0x rfl r1r rfl rfl y9y rfl rfl ?_
 refine x3x rfl y9y rfl rfl ?_
 refine x1x rfl ?_
 refine v9v rfl rfl ?_
 refine x0x rfl s0s rfl rfl b4p rfl rfl ?_
 refine x3x rfl b4p rfl rfl ?_
 refine x1x rfl ?_
 refine v9v rfl rfl ?_
 refine x0x rfl s0s rfl rfl r1r rfl rfl ?_
 refine x0x rfl r1r rfl rfl y9y rfl rfl ?_
 refine x3x rfl y9y rfl rfl ?_
 refine x1x rfl ?_
 refine v9v rfl rfl ?_
 refine x0x rfl s0s rfl rfl r1r rfl rfl ?_
 refine x0x rfl r1r rfl rfl y9y rfl rfl ?_
 refine x3x rfl y9y rfl rfl ?_
 refine x1x rfl ?_
 refine v9v rfl rfl ?_
 refine x0x rfl s0s rfl rfl r1r rfl rfl ?_
 refine x0x rfl r1r rfl rfl u6u rfl rfl ?_
 refine x3x rfl u6u rfl rfl ?_
 refine x1x rfl ?_
 refine v9v rfl rfl ?_
 refine x0x rfl s0s rfl rfl r1r rfl rfl ?_
 refine x0x rfl r1r rfl rfl u7u rfl rfl ?_
 refine x3x rfl u7u rfl rfl ?_
 refine x1x rfl ?_
 refine v9v rfl rfl ?_
 refine x0x rfl s0s rfl rfl r1r rfl rfl ?_
 refine x0x rfl r1r rfl rfl y9y rfl rfl ?_
 refine x3x rfl y9y rfl rfl ?_
 refine x1x rfl ?_
 refine v9v rfl rfl ?_
 refine x0x rfl s0s rfl rfl y9y rfl rfl ?_
 refine x3x rfl y9y rfl rfl ?_
 refine x1x rfl ?_
 refine v9v rfl rfl ?_
 refine x0x rfl s0s rfl rfl p3p rfl rfl ?_
 refine x3x rfl p3p rfl rfl ?_
 refine x1x rfl ?_
 refine v9v rfl rfl ?_
 refine x0x rfl s0s rfl rfl y9y rfl rfl ?_
 refine x3x rfl y9y rfl rfl ?_
 refine x1x rfl ?_
 refine v9v rfl rfl ?_
 refine x0x rfl s0s rfl rfl y9y rfl rfl ?_
 refine x3x rfl y9y rfl rfl ?_
 refine s5s z5z rfl a6g rfl (by simp only [pI, y9y, T3, b4p, T4, p3p, T22, w1w, T23, u6u, T24, u7u, T25, p8p, T26, a2g, q9q, AV.okc, AV.one, Value.oneCell', List.map_cons, List.map_nil, List.getElem?_cons_zero, List.getElem?_cons_succ, List.take_succ_cons, List.take_zero, List.drop_succ_cons, List.drop_zero, List.cons_append, List.nil_append, List.length_cons, List.length_nil, if_true, and_self, Nat.reduceAdd, Nat.reduceLeDiff]; rfl) ?_
 refine u9u (id := 8) z5z a6g rfl ?_
 refine z2z rfl rfl z5z rfl rfl rfl rfl ?_
 refine ⟨by kernel_rfl, ?_⟩
 refine x5x fun K1 hK1 => ?_
 refine x4x x7x (by rfl) ?_
 refine x1x rfl ?_
 refine v9v rfl rfl ?_
 refine x0x rfl s0s rfl rfl r1r rfl rfl ?_
 refine x0x rfl r1r rfl rfl a2k rfl rfl ?_
 refine x3x rfl a2k rfl rfl ?_
 refine a0v rfl a2k rfl rfl (by exact List.length_map _) ?_
 refine x1x rfl ?_
 refine y6y ?_
 refine a3i 8 4 5 65 5 rfl rfl rfl rfl rfl ?_
 refine u4u (ι := Nat) (fun i γ1 => [(63, .pv (.int .i64 (i : Int)))]) (fun i γ1 => [(5, ((γ1 5), .row 65 5 ((n.lanes.take i).map (a0m c)))), (8, ((0 + 1), .box 28 [pI n.id, .pv (.bool n.up), pI n.inc, pI n.g, .ref 5 (γ1 5), a0i c n.kept, a0z c n.outs, pI n.led, pI n.version, .pv (.slice none 0 0), .ref 3 (γ 3), pI n.round, pI n.low])), (9, ((γ1 9), .dead)), (10, ((γ1 10), .dead))]) (fun i => i ≤ n.lanes.length) (fun i => n.lanes.length - i) (Cov.cons (t := 0) rfl (Cov.cons (t := 2) rfl (Cov.cons (t := 3) rfl (Cov.cons (t := 62) rfl Cov.nil)))) (HE.same (id := 0) rfl (HE.same (id := 1) rfl (HE.same (id := 2) rfl (HE.same (id := 3) rfl (HE.same (id := 4) rfl (HE.same (id := 6) rfl (HE.same (id := 7) rfl (HE.same (id := 11) rfl (HE.same (id := 12) rfl HE.nil))))))))) 0 (by omega) [0, 0, 0, 0, 0, _, 0, 0, 0, _, _] (Cov.cons (t := 63) rfl Cov.nil) (HE.row rfl (by rw [List.take_zero]; rfl) (HE.box rfl rfl (HE.kill rfl (HE.kill rfl HE.nil)))) rfl fun i γ1 hi => ?_
 try dsimp only [List.cons_append, List.nil_append]
 refine x4x x7x (by rfl) ?_
 refine y3y rfl rfl rfl ?_
 refine x5x fun K2 hK2 => ?_
 refine x8x rfl (fun hc3 => ?_) (fun hc3 => ?_)
 ·try simp at hc3
  obtain ⟨l, hl⟩ : ∃ l, n.lanes[i]? = some l := ⟨_, List.getElem?_eq_getElem (by omega)⟩
  refine x9x ?_
  refine hK2 _ _ ?_
  clear hK2 K2
  refine x5x fun K4 hK4 => ?_
  refine y6y ?_
  refine x4x x7x (by rfl) ?_
  refine x1x rfl ?_
  refine x2x rfl ?_
  refine s3s x7x r2r (by rfl) ?_
  refine x0x rfl z5z rfl rfl w1w rfl rfl ?_
  refine x3x rfl w1w rfl rfl ?_
  refine x1x rfl ?_
  refine x1x rfl ?_
  refine v4v [0, 1, 2, 3, 4] [_, _, _, _, _] (a3p c n _ (a0s _ _) i l hl (hN i l hl)) rfl rfl rfl (by decide) rfl rfl (by repeat (first | exact InH.nil | refine InH.cons rfl ?_)) (by (simp only [pI, List.map_cons, List.map_nil, z8z, z9z, gl, nx, p4p, Nat.beq, Nat.add_eq, List.getD_cons_zero, List.getD_cons_succ, List.getD_nil, Bool.or_false, Bool.false_or, Bool.true_or, Bool.or_true, Nat.add_zero, Nat.zero_add]; rfl)) (by (simp only [pI, List.map_cons, List.map_nil, z8z, z9z, gl, nx, p4p, Nat.beq, Nat.add_eq, List.getD_cons_zero, List.getD_cons_succ, List.getD_nil, Bool.or_false, Bool.false_or, Bool.true_or, Bool.or_true, Nat.add_zero, Nat.zero_add]; rfl)) ?_
  refine r6r (id := 9) w1w rfl v2v rfl rfl rfl rfl rfl rfl ?_
  refine r8r (zs := (n.lanes.take i ++ [l]).map (a0m c)) rfl rfl w1w rfl v2v rfl rfl rfl rfl (by rfl) (a0j _ _ _) (by (simp only [List.length_map, List.length_append, List.length_cons, List.length_nil, List.length_take, List.length_range, T65]; omega)) ?_
  refine x0x rfl z5z rfl rfl w1w rfl rfl ?_
  refine u5u rfl rfl w1w rfl rfl rfl rfl rfl (by simp only [List.set_cons_zero, List.set_cons_succ]; rfl) ?_
  refine ⟨by kernel_rfl, ?_⟩
  refine hK4 _ _ ?_
  clear hK4 K4
  refine y4y x7x (by rfl) ?_
  refine y3y rfl rfl rfl ?_
  refine x1x rfl ?_
  exact ⟨i + 1, ⟨by omega, by omega⟩, [0, 0, 0, 0, 0, _, 0, 0, 0, _, _], (Cov.cons' (t := 63) rfl (by rw [v6v (by omega) (by omega)]; rfl) Cov.nil), (Cov.cons (t := 0) rfl (Cov.cons (t := 2) rfl (Cov.cons (t := 3) rfl (Cov.cons (t := 62) rfl Cov.nil)))), (HE.row rfl (by simp only [p1p hl, List.map_append, List.map_cons, List.map_nil]) (HE.box rfl rfl (HE.kill rfl (HE.kill rfl HE.nil)))), (HE.same (id := 0) rfl (HE.same (id := 1) rfl (HE.same (id := 2) rfl (HE.same (id := 3) rfl (HE.same (id := 4) rfl (HE.same (id := 6) rfl (HE.same (id := 7) rfl (HE.same (id := 11) rfl (HE.same (id := 12) rfl HE.nil))))))))), rfl⟩
 try simp at hc3
 obtain rfl : i = n.lanes.length := by omega
 rw [List.take_length]
 refine v0v ?_
 refine hK1 _ _ ?_
 clear hK2 K2 hK1 K1
 refine x5x fun K5 hK5 => ?_
 refine x4x x7x (by rfl) ?_
 refine x1x rfl ?_
 refine y6y ?_
 refine a3i 8 9 6 141 3 rfl rfl rfl rfl rfl ?_
 refine u4u (ι := Nat) (fun i γ2 => [(75, .pv (.int .i64 (i : Int)))]) (fun i γ2 => [(6, ((γ2 6), .row 141 3 ((n.views.take i).map (a2n c)))), (8, ((0 + 1), .box 28 [pI n.id, .pv (.bool n.up), pI n.inc, pI n.g, .ref 5 (γ1 5), a0i c n.kept, a0z c n.outs, pI n.led, pI n.version, .ref 6 (γ2 6), .ref 3 (γ 3), pI n.round, pI n.low])), (11, ((γ2 11), .dead)), (12, ((γ2 12), .dead))]) (fun i => i ≤ 3) (fun i => 3 - i) (Cov.cons (t := 0) rfl (Cov.cons (t := 2) rfl (Cov.cons (t := 3) rfl Cov.nil))) (HE.same (id := 0) rfl (HE.same (id := 1) rfl (HE.same (id := 2) rfl (HE.same (id := 3) rfl (HE.same (id := 4) rfl (HE.same (id := 5) rfl (HE.same (id := 7) rfl (HE.same (id := 9) rfl (HE.same (id := 10) rfl HE.nil))))))))) 0 (by omega) [0, 0, 0, 0, 0, 0, _, 0, 0, 0, 0, _, _] (Cov.cons (t := 75) rfl Cov.nil) (HE.row rfl (by rfl) (HE.box rfl rfl (HE.kill rfl (HE.kill rfl HE.nil)))) rfl fun i γ2 hi => ?_
 try dsimp only [List.cons_append, List.nil_append]
 refine x4x x7x (by rfl) ?_
 refine y3y rfl rfl rfl ?_
 refine x5x fun K6 hK6 => ?_
 refine x8x rfl (fun hc7 => ?_) (fun hc7 => ?_)
 rotate_left
 ·try simp at hc7
  obtain rfl : i = 3 := by omega
  refine v0v ?_
  refine hK5 _ _ ?_
  clear hK6 K6 hK5 K5
  refine x4x x7x (by rfl) ?_
  refine y1y rfl z5z rfl rfl rfl ?_
  refine z2z rfl rfl z5z rfl rfl rfl rfl ?_
  refine y0y ?_
  exact ⟨.inr rfl, [γ 0, γ 1, γ 2, γ 3, γ 4, _, _], rfl, rfl, HE.row rfl rfl (HE.row rfl (by rw [List.take_of_length_le (by omega)]) (HE.same (id := 0) rfl (HE.same (id := 1) rfl (HE.same (id := 2) rfl (HE.same (id := 3) rfl (HE.same (id := 4) rfl HE.nil))))))⟩
 try simp at hc7
 obtain ⟨v, hv⟩ : ∃ v, n.views[i]? = some v := ⟨_, List.getElem?_eq_getElem (by omega)⟩
 refine x9x ?_
 refine hK6 _ _ ?_
 clear hK6 K6
 refine x5x fun K8 hK8 => ?_
 refine y6y ?_
 refine x4x x7x (by rfl) ?_
 refine x1x rfl ?_
 refine x2x rfl ?_
 refine s3s x7x r2r (by rfl) ?_
 refine x0x rfl z5z rfl rfl p8p rfl rfl ?_
 refine x3x rfl p8p rfl rfl ?_
 refine x1x rfl ?_
 refine v9v rfl rfl ?_
 refine x0x rfl s0s rfl rfl b6a rfl rfl ?_
 refine x3x rfl b6a rfl rfl ?_
 refine x1x rfl ?_
 refine a3h (κ := Int) (enc := fun n => .int .i64 n) (ks := b7n n.views.length) (k := (i : Int)) (out := .agg (a2n c v)) x7x Tryz.underlying137 (b6k Tryz.underlying3) rfl rfl (fun _ _ _ h => d5i h) rfl (b7o _ _) (c4f hv) ?_
 refine r6r (id := 11) p8p rfl w5w rfl rfl rfl rfl rfl rfl ?_
 refine r8r (zs := (n.views.take i).map (a2n c) ++ [a2n c v]) rfl rfl p8p rfl w5w rfl rfl rfl rfl (by rfl) rfl (by simp only [List.length_append, List.length_map, List.length_range, List.length_take, List.length_cons, List.length_nil, T141]; omega) ?_
 refine x0x rfl z5z rfl rfl p8p rfl rfl ?_
 refine u5u rfl rfl p8p rfl rfl rfl rfl rfl (by simp only [List.set_cons_zero, List.set_cons_succ]; rfl) ?_
 refine ⟨by kernel_rfl, ?_⟩
 refine hK8 _ _ ?_
 clear hK8 K8
 refine y4y x7x (by rfl) ?_
 refine y3y rfl rfl rfl ?_
 refine x1x rfl ?_
 exact ⟨i + 1, ⟨by omega, by omega⟩, [0, 0, 0, 0, 0, 0, _, 0, 0, 0, 0, _, _], (Cov.cons' (t := 75) rfl (by rw [v6v (by omega) (by omega)]; rfl) Cov.nil), (Cov.cons (t := 0) rfl (Cov.cons (t := 2) rfl (Cov.cons (t := 3) rfl Cov.nil))), (HE.row rfl (by rw [p1p hv, List.map_append]; rfl) (HE.box rfl rfl (HE.kill rfl (HE.kill rfl HE.nil)))), (HE.same (id := 0) rfl (HE.same (id := 1) rfl (HE.same (id := 2) rfl (HE.same (id := 3) rfl (HE.same (id := 4) rfl (HE.same (id := 5) rfl (HE.same (id := 7) rfl (HE.same (id := 9) rfl (HE.same (id := 10) rfl HE.nil))))))))), rfl⟩
end
section
theorem b7t (c c' : Bool) (l : La) (s : List Ev) : a0o Tryz.prog 163 [.agg (a0m c l), a0i c' s] (.tup [.agg (w0w (a2f l s).1), .pv (.bool (a2f l s).2)]) := by
 refine z4z x7x (fn := Tryz.f163) (by kernel_rfl) (by kernel_rfl) rfl (outs := [.agg (w0w (a2f l s).1), .pv (.bool (a2f l s).2)]) (by rfl) (Nat.le_of_ble_eq_true rfl) 3 ?_
 refine w9w 1 rfl fun hlen => ?_
 have hsm := c1a l.done s
 refine x4x x7x (by rfl) ?_
 refine v5v (id := 0) rfl rfl rfl ?_
 refine u9u (id := 1) z1z a7o rfl ?_
 refine x2x rfl ?_
 refine x4x x7x (by rfl) ?_
 refine x0x rfl v2v rfl rfl v3v rfl rfl ?_
 refine x3x rfl v3v rfl rfl ?_
 refine v4v [2] [_] (b1f c l.done) rfl rfl rfl (by decide) rfl rfl (by repeat (first | exact InH.nil | refine InH.cons rfl ?_)) (by (simp only [pI, List.map_cons, List.map_nil, z8z, z9z, gl, nx, p4p, Nat.beq, Nat.add_eq, List.getD_cons_zero, List.getD_cons_succ, List.getD_nil, Bool.or_false, Bool.false_or, Bool.true_or, Bool.or_true, Nat.add_zero, Nat.zero_add]; rfl)) (by (simp only [pI, List.map_cons, List.map_nil, z8z, z9z, gl, nx, p4p, Nat.beq, Nat.add_eq, List.getD_cons_zero, List.getD_cons_succ, List.getD_nil, Bool.or_false, Bool.false_or, Bool.true_or, Bool.or_true, Nat.add_zero, Nat.zero_add]; rfl)) ?_
 refine x1x rfl ?_
 refine v4v [2] [_] (a4l c c' l.done s) rfl rfl rfl (by decide) rfl rfl (by repeat (first | exact InH.nil | refine InH.cons rfl ?_)) (by (simp only [pI, List.map_cons, List.map_nil, z8z, z9z, gl, nx, p4p, Nat.beq, Nat.add_eq, List.getD_cons_zero, List.getD_cons_succ, List.getD_nil, Bool.or_false, Bool.false_or, Bool.true_or, Bool.or_true, Nat.add_zero, Nat.zero_add]; rfl)) (by (simp only [pI, List.map_cons, List.map_nil, z8z, z9z, gl, nx, p4p, Nat.beq, Nat.add_eq, List.getD_cons_zero, List.getD_cons_succ, List.getD_nil, Bool.or_false, Bool.false_or, Bool.true_or, Bool.or_true, Nat.add_zero, Nat.zero_add]; rfl)) ?_
 refine x2x rfl ?_
 refine x5x fun K1 hK1 => ?_
 refine x4x x7x (by rfl) ?_
 refine x1x rfl ?_
 refine x0x rfl v2v rfl rfl v3v rfl rfl ?_
 refine x3x rfl v3v rfl rfl ?_
 refine u2u rfl v3v rfl ?_
 refine y3y rfl rfl rfl ?_
 refine x1x rfl ?_
 refine s9s rfl rfl (fun hg2 => ?_) (fun hg2 => ?_)
 rotate_left
 ·try simp at hg2
  refine x6x rfl rfl ?_
  refine x6x rfl rfl ?_
  refine x6x rfl rfl ?_
  refine y8y rfl rfl ?_
  refine x8x rfl (fun hc4 => ?_) (fun hc4 => ?_)
  rotate_left
  ·simp at hc4
  try simp at hc4
  refine x4x x7x (by rfl) ?_
  refine s5s z1z rfl a7o rfl (by simp only [pI, a2g, q9q, AV.okc, AV.one, T3, T4, List.getElem?_cons_zero, List.getElem?_cons_succ, List.take_succ_cons, List.take_zero, List.drop_succ_cons, List.drop_zero, List.cons_append, List.nil_append, List.length_cons, List.length_nil, if_true, and_self, Nat.reduceAdd, Nat.reduceLeDiff]; rfl) ?_
  refine z2z rfl rfl z1z rfl rfl rfl rfl ?_
  refine x2x rfl ?_
  refine y0y ⟨.inr rfl, ?_⟩
  clear hK1 K1
  (rw [d0z (by omega)]; exact ⟨_, _, rfl, .agg rfl (.cl rfl (.cl rfl (.cl rfl (.cl rfl (.cl rfl (.cl rfl (.cl rfl .nil))))))) (.cl rfl .nil)⟩)
 try simp at hg2
 refine x1x rfl ?_
 refine y5y rfl rfl ?_
 refine x1x rfl ?_
 refine y5y rfl rfl ?_
 refine u2u rfl u6u rfl ?_
 refine y5y rfl rfl ?_
 refine y3y rfl rfl rfl ?_
 refine y2y rfl rfl ?_
 refine x8x rfl (fun hc3 => ?_) (fun hc3 => ?_)
 ·try simp at hc3
  refine x4x x7x (by rfl) ?_
  refine s5s z1z rfl a7o rfl (by simp only [pI, a2g, q9q, AV.okc, AV.one, T3, T4, List.getElem?_cons_zero, List.getElem?_cons_succ, List.take_succ_cons, List.take_zero, List.drop_succ_cons, List.drop_zero, List.cons_append, List.nil_append, List.length_cons, List.length_nil, if_true, and_self, Nat.reduceAdd, Nat.reduceLeDiff]; rfl) ?_
  refine z2z rfl rfl z1z rfl rfl rfl rfl ?_
  refine x2x rfl ?_
  refine y0y ⟨.inr rfl, ?_⟩
  clear hK1 K1
  (rw [d1a (by omega)]; exact ⟨_, _, rfl, .agg rfl (.cl rfl (.cl rfl (.cl rfl (.cl rfl (.cl rfl (.cl rfl (.cl rfl .nil))))))) (.cl rfl .nil)⟩)
 try simp at hc3
 have hlt : same l.done s < s.length := by omega
 obtain ⟨e, he⟩ : ∃ e, s[same l.done s]? = some e := ⟨_, List.getElem?_eq_getElem hlt⟩
 refine x9x ?_
 refine hK1 _ _ ?_
 clear hK1 K1
 refine x4x x7x (by rfl) ?_
 refine x1x rfl ?_
 refine x1x rfl ?_
 refine z7z rfl rfl u6u rfl z1z rfl he ?_
 refine z3z (out := .agg (w0w e)) rfl z1z rfl ?_
 refine z2z rfl rfl z1z rfl rfl rfl rfl ?_
 refine x2x rfl ?_
 refine y0y ⟨.inr rfl, ?_⟩
 (rw [d1b (by omega) he]; exact ⟨_, _, rfl, .agg rfl (.cl rfl (.cl rfl (.cl rfl (.cl rfl (.cl rfl (.cl rfl (.cl rfl .nil))))))) (.cl rfl .nil)⟩)
end
section
theorem b7u (c : Bool) (n : Nd) (fK : a0r n) : Meth Tryz.prog 112 5 [0, 1, 2, 3, 4] [.ptr 4 0 0] [(0, (0, .row 62 3 ((n.lanes).map fun l => a0b l.base))), (1, (0, .row 63 1 ((n.lanes).map fun l => [a4j c l.done]))), (2, (0, .map (b0o c n.views))), (3, (0, .row 3 1 (n.known.map a2w))), (4, (0, .box 139 [pI n.id, pI n.inc, pI n.g, pI n.led, .ref 0 0, a0i c n.kept, a0z c n.outs, .pv (.bool n.up), .ref 1 0, pI n.version, .mp 2 0, .ref 3 0, pI n.round, pI n.low]))] (.pv (.int .i64 (d6m n))) [] := by
 refine u8u x7x (fn := Tryz.f112) (by kernel_rfl) (by kernel_rfl) rfl (O0 := [.pv (.int .i64 (d6m n))]) 5 3 (Nat.le_of_ble_eq_true rfl) (by rfl) (by repeat (first | exact BndH.nil | refine BndH.box rfl ?_ | refine BndH.row (u3u fun _ => rfl) ?_ | refine BndH.map (a0s _ _) ?_ )) (by repeat (exact BndH.nil )) (by rfl) fun γ => ?_
 show Ex Tryz.prog _ _ [(0, .ptr 4 (γ 4) 0)] [(0, ((γ 0), .row 62 3 ((n.lanes).map fun l => a0b l.base))), (1, ((γ 1), .row 63 1 ((n.lanes).map fun l => [a4j c l.done]))), (2, ((γ 2), .map (b0o c n.views))), (3, ((γ 3), .row 3 1 (n.known.map a2w))), (4, ((γ 4), .box 139 [pI n.id, pI n.inc, pI n.g, pI n.led, .ref 0 (γ 0), a0i c n.kept, a0z c n.outs, .pv (.bool n.up), .ref 1 (γ 1), pI n.version, .mp 2 (γ 2), .ref 3 (γ 3), pI n.round, pI n.low])), (7, (0, .dead)), (6, (0, .dead)), (5, (0, .dead))] _
 have fS := fK.1
 have fB := s6s fS
 have fL := fS.2.2.2.2.1
 refine x4x x7x (by rfl) ?_
 refine x2x rfl ?_
 refine x4x x7x (by rfl) ?_
 refine x2x rfl ?_
 refine x5x fun K1 hK1 => ?_
 refine x4x x7x (by rfl) ?_
 refine x1x rfl ?_
 refine v9v rfl rfl ?_
 refine x0x rfl s0s rfl rfl r1r rfl rfl ?_
 refine x0x rfl r1r rfl rfl y9y rfl rfl ?_
 refine x3x rfl y9y rfl rfl ?_
 refine y7y rfl rfl rfl (a3z ..) ?_
 refine u2u rfl p3p rfl ?_
 refine x1x rfl ?_
 refine y6y ?_
 refine u4u (ι := Nat) (fun i γ1 => [(3, .pv (.int .i64 (a8p n i))), (15, .pv (.int .i64 (i : Int)))]) (fun i γ1 => [(6, ((γ1 6), .dead)), (5, ((γ1 5), .dead))]) (fun i => i ≤ n.lanes.length) (fun i => n.lanes.length - i) (Cov.cons (t := 0) rfl (Cov.cons (t := 13) rfl (Cov.cons (t := 14) rfl Cov.nil))) (HE.same (id := 0) rfl (HE.same (id := 1) rfl (HE.same (id := 2) rfl (HE.same (id := 3) rfl (HE.same (id := 4) rfl (HE.same (id := 7) rfl HE.nil)))))) 0 (by omega) [0, 0, 0, 0, 0, _, _] (Cov.cons (t := 3) rfl (Cov.cons (t := 15) rfl Cov.nil)) (HE.kill rfl (HE.kill rfl HE.nil)) rfl fun i γ1 hi => ?_
 try dsimp only [List.cons_append, List.nil_append]
 refine x4x x7x (by rfl) ?_
 refine y3y rfl rfl rfl ?_
 refine x5x fun K2 hK2 => ?_
 refine x8x rfl (fun hc3 => ?_) (fun hc3 => ?_)
 rotate_left
 ·try simp at hc3
  obtain rfl : i = n.lanes.length := by omega
  refine v0v ?_
  refine hK1 _ _ ?_
  clear hK2 K2 hK1 K1
  refine x4x x7x (by rfl) ?_
  refine x1x rfl ?_
  refine x2x rfl ?_
  refine y0y ?_
  exact ⟨.inr rfl, [γ 0, γ 1, γ 2, γ 3, γ 4], rfl, rfl, (HE.same (id := 0) rfl (HE.same (id := 1) rfl (HE.same (id := 2) rfl (HE.same (id := 3) rfl (HE.same (id := 4) rfl HE.nil)))))⟩
 try simp at hc3
 obtain ⟨l, hl⟩ : ∃ l, n.lanes[i]? = some l := ⟨_, List.getElem?_eq_getElem (by omega)⟩
 have hnc := c3t fK hl
 refine x9x ?_
 refine hK2 _ _ ?_
 clear hK2 K2
 refine x5x fun K4 hK4 => ?_
 refine y6y ?_
 refine x4x x7x (by rfl) ?_
 refine x1x rfl ?_
 refine z7z rfl rfl p3p rfl y9y rfl hnc.1 ?_
 refine z3z rfl y9y rfl ?_
 refine x2x rfl ?_
 refine x2x rfl ?_
 refine x4x x7x (by rfl) ?_
 refine x1x rfl ?_
 refine x1x rfl ?_
 refine v4v [0, 1, 2, 3, 4] [_, _, _, _, _] (a3p c n _ (a0s _ _) i l hl hnc.1) rfl rfl rfl (by decide) rfl rfl (by repeat (first | exact InH.nil | refine InH.cons rfl ?_)) (by (simp only [pI, List.map_cons, List.map_nil, z8z, z9z, gl, nx, p4p, Nat.beq, Nat.add_eq, List.getD_cons_zero, List.getD_cons_succ, List.getD_nil, Bool.or_false, Bool.false_or, Bool.true_or, Bool.or_true, Nat.add_zero, Nat.zero_add]; rfl)) (by (simp only [pI, List.map_cons, List.map_nil, z8z, z9z, gl, nx, p4p, Nat.beq, Nat.add_eq, List.getD_cons_zero, List.getD_cons_succ, List.getD_nil, Bool.or_false, Bool.false_or, Bool.true_or, Bool.or_true, Nat.add_zero, Nat.zero_add]; rfl)) ?_
 refine x1x rfl ?_
 refine x1x rfl ?_
 refine v4v [0, 1, 2, 3, 4, 6] [_, _, _, _, _, _] (a8y c n l.proc (b3z fS) (by omega) fS.2.2.2.2.2.1) rfl rfl rfl (by decide) rfl rfl (by repeat (first | exact InH.nil | refine InH.cons rfl ?_)) (by (simp only [pI, List.map_cons, List.map_nil, z8z, z9z, gl, nx, p4p, Nat.beq, Nat.add_eq, List.getD_cons_zero, List.getD_cons_succ, List.getD_nil, Bool.or_false, Bool.false_or, Bool.true_or, Bool.or_true, Nat.add_zero, Nat.zero_add]; rfl)) (by (simp only [pI, List.map_cons, List.map_nil, z8z, z9z, gl, nx, p4p, Nat.beq, Nat.add_eq, List.getD_cons_zero, List.getD_cons_succ, List.getD_nil, Bool.or_false, Bool.false_or, Bool.true_or, Bool.or_true, Nat.add_zero, Nat.zero_add]; rfl)) ?_
 refine a8g rfl rfl rfl (by exact d3f rfl rfl (.ref rfl (Le.ow_map _ nf (fun _ => rfl)) .nil)) (b7t c false l (a0u n l.proc)) (by exact .tup (a4s (.agg (c7w (evN _))) (a4s (.pv _) d6c))) ?_
 refine x1x rfl ?_
 refine w6w rfl rfl ?_
 refine w6w rfl rfl ?_
 refine u9u (id := 5) z1z a7o rfl ?_
 refine z2z rfl rfl z1z rfl rfl rfl rfl ?_
 refine x2x rfl ?_
 refine x4x x7x (by rfl) ?_
 refine x1x rfl ?_
 refine x1x rfl ?_
 refine s9s rfl rfl (fun hg5 => ?_) (fun hg5 => ?_)
 rotate_left
 ·try simp at hg5
  have hno : ¬ ((a2f l (a0u n l.proc)).2 = true ∧ (a2f l (a0u n l.proc)).1.time < a8p n i) := fun h => by have := h.1; simp_all
  refine x6x rfl rfl ?_
  refine x6x rfl rfl ?_
  refine x6x rfl rfl ?_
  refine y2y rfl rfl ?_
  refine x8x rfl (fun hc7 => ?_) (fun hc7 => ?_)
  ·simp at hc7
  try simp at hc7
  have hno : ¬ ((a2f l (a0u n l.proc)).2 = true ∧ (a2f l (a0u n l.proc)).1.time < a8p n i) := by exact hno
  refine x9x ?_
  refine hK4 _ _ ?_
  clear hK4 K4
  refine y4y x7x (by rfl) ?_
  refine u1u (b := 1) rfl rfl (by omega) ?_
  refine x1x rfl ?_
  exact ⟨i + 1, ⟨by omega, by omega⟩, [0, 0, 0, 0, 0, _, _], (Cov.cons' (t := 3) rfl (by exact congrArg (fun v : Int => AV.pv (.int .i64 v)) (c1d hl hno).symm) (Cov.cons (t := 15) rfl Cov.nil)), (Cov.cons (t := 0) rfl (Cov.cons (t := 13) rfl (Cov.cons (t := 14) rfl Cov.nil))), (HE.kill rfl (HE.kill rfl HE.nil)), (HE.same (id := 0) rfl (HE.same (id := 1) rfl (HE.same (id := 2) rfl (HE.same (id := 3) rfl (HE.same (id := 4) rfl (HE.same (id := 7) rfl HE.nil)))))), rfl⟩
 try simp at hg5
 have h2 : (a2f l (a0u n l.proc)).2 = true := by exact hg5
 refine x0x rfl z1z rfl rfl y9y rfl rfl ?_
 refine y5y rfl rfl ?_
 refine x3x rfl y9y rfl rfl ?_
 refine y5y rfl rfl ?_
 refine x1x rfl ?_
 refine y5y rfl rfl ?_
 refine y3y rfl rfl rfl ?_
 refine y8y rfl rfl ?_
 refine x8x rfl (fun hc6 => ?_) (fun hc6 => ?_)
 rotate_left
 ·try simp at hc6
  have hno : ¬ ((a2f l (a0u n l.proc)).2 = true ∧ (a2f l (a0u n l.proc)).1.time < a8p n i) := by (intro h; omega)
  refine x9x ?_
  refine hK4 _ _ ?_
  clear hK4 K4
  refine y4y x7x (by rfl) ?_
  refine u1u (b := 1) rfl rfl (by omega) ?_
  refine x1x rfl ?_
  exact ⟨i + 1, ⟨by omega, by omega⟩, [0, 0, 0, 0, 0, _, _], (Cov.cons' (t := 3) rfl (by exact congrArg (fun v : Int => AV.pv (.int .i64 v)) (c1d hl hno).symm) (Cov.cons (t := 15) rfl Cov.nil)), (Cov.cons (t := 0) rfl (Cov.cons (t := 13) rfl (Cov.cons (t := 14) rfl Cov.nil))), (HE.kill rfl (HE.kill rfl HE.nil)), (HE.same (id := 0) rfl (HE.same (id := 1) rfl (HE.same (id := 2) rfl (HE.same (id := 3) rfl (HE.same (id := 4) rfl (HE.same (id := 7) rfl HE.nil)))))), rfl⟩
 try simp at hc6
 have h3 : (a2f l (a0u n l.proc)).1.time < a8p n i := by omega
 refine y4y x7x (by rfl) ?_
 refine x0x rfl z1z rfl rfl y9y rfl rfl ?_
 refine x3x rfl y9y rfl rfl ?_
 refine x2x rfl ?_
 refine hK4 _ _ ?_
 clear hK4 K4
 refine y4y x7x (by rfl) ?_
 refine u1u (b := 1) rfl rfl (by omega) ?_
 refine x1x rfl ?_
 exact ⟨i + 1, ⟨by omega, by omega⟩, [0, 0, 0, 0, 0, _, _], (Cov.cons' (t := 3) rfl (by exact congrArg (fun v : Int => AV.pv (.int .i64 v)) (d1e hl ⟨h2, h3⟩).symm) (Cov.cons (t := 15) rfl Cov.nil)), (Cov.cons (t := 0) rfl (Cov.cons (t := 13) rfl (Cov.cons (t := 14) rfl Cov.nil))), (HE.kill rfl (HE.kill rfl HE.nil)), (HE.same (id := 0) rfl (HE.same (id := 1) rfl (HE.same (id := 2) rfl (HE.same (id := 3) rfl (HE.same (id := 4) rfl (HE.same (id := 7) rfl HE.nil)))))), rfl⟩
end
section
theorem a7c (l : List Ou) (x : Ou) (hl : l.length ≤ 1000000000) : Meth Tryz.prog 232 2 [0] [.ptr 0 0 0, .agg (r0r x)] [(0, (0, .box 260 [.ref 1 0, .fn (.func 231) [] []])), (1, (0, .row 104 5 ((l).map r0r)))] (.tup []) [(0, (0, .box 260 [.ref 1 0, .fn (.func 231) [] []])), (1, (0, .row 104 5 ((b2s a3c l x).map r0r)))] := by
 refine u8u x7x (fn := Tryz.f232) (by kernel_rfl) (by kernel_rfl) rfl (O0 := []) 2 3 (Nat.le_of_ble_eq_true rfl) (by rfl) (by repeat (first | exact BndH.nil | refine BndH.box rfl ?_ | refine BndH.row (u3u fun _ => rfl) ?_)) (by repeat (first | exact BndH.nil | refine BndH.box rfl ?_ | refine BndH.row (u3u fun _ => rfl) ?_)) (by rfl) fun γ => ?_
 show Ex Tryz.prog _ _ [(0, .ptr 0 (γ 0) 0), (1, .agg (r0r x))] [(0, ((γ 0), .box 260 [.ref 1 (γ 1), .fn (.func 231) [] []])), (1, ((γ 1), .row 104 5 ((l).map r0r))), (4, (0, .dead)), (3, (0, .dead)), (2, (0, .dead))] _
 refine x4x x7x (by rfl) ?_
 refine v5v (id := 2) rfl rfl rfl ?_
 refine p6p x7x r2r (by rfl) ?_
 refine x1x rfl ?_
 refine x1x rfl ?_
 refine v9v rfl rfl ?_
 refine x0x rfl a0p rfl rfl u7u rfl rfl ?_
 refine x3x rfl u7u rfl rfl ?_
 refine y1y rfl u0u rfl rfl rfl ?_
 refine r6r (id := 3) u7u rfl u0u rfl rfl rfl rfl rfl rfl ?_
 refine r8r rfl rfl u7u rfl u0u rfl rfl rfl rfl (by rfl) (by exact a0j _ _ _) (by (simp only [List.length_map, List.length_append, List.length_cons, List.length_nil, T104]; omega)) ?_
 refine v9v rfl rfl ?_
 refine x0x rfl a0p rfl rfl u7u rfl rfl ?_
 refine u5u rfl rfl u7u rfl rfl rfl rfl rfl (by simp only [List.set_cons_zero, List.set_cons_succ]; rfl) ?_
 refine ⟨by kernel_rfl, ?_⟩
 refine x4x x7x (by rfl) ?_
 refine x1x rfl ?_
 refine v9v rfl rfl ?_
 refine x0x rfl a0p rfl rfl u7u rfl rfl ?_
 refine x3x rfl u7u rfl rfl ?_
 refine a0v rfl u7u rfl rfl (by exact List.length_map _) ?_
 refine a0k (b := 1) rfl rfl (by (simp; done)) (by (simp; omega)) ?_
 refine x2x rfl ?_
 refine y6y ?_
 refine u4u (ι := Nat × List Ou) (fun i γ1 => [(4, .pv (.int .i64 (i.1 : Int)))]) (fun i γ1 => [(1, ((γ1 1), .row 104 5 ((i.2).map r0r))), (0, ((γ 0), .box 260 [.ref 1 (γ1 1), .fn (.func 231) [] []]))]) (fun i => a5s a3c i.2 i.1 = b2s a3c l x ∧ i.1 < i.2.length ∧ i.2.length = l.length + 1) (fun i => i.1) (Cov.cons (t := 0) rfl Cov.nil) (HE.same (id := 2) rfl (HE.same (id := 3) rfl (HE.same (id := 4) rfl HE.nil))) (l.length, l ++ [x]) ⟨rfl, by simp, by simp⟩ [0, _] (Cov.cons' (t := 4) rfl (by simp) Cov.nil) (HE.row rfl rfl (HE.box rfl rfl HE.nil)) rfl fun i γ1 hi => ?_
 try dsimp only [List.cons_append, List.nil_append]
 obtain ⟨k, m⟩ := i
 obtain ⟨h1, h2, h3⟩ := hi
 dsimp only at h1 h2 h3 ⊢
 refine x5x fun K1 hK1 => ?_
 refine x4x x7x (by rfl) ?_
 refine x1x rfl ?_
 refine y3y rfl rfl rfl ?_
 refine x8x rfl (fun hc2 => ?_) (fun hc2 => ?_)
 rotate_left
 ·try simp at hc2
  have hk : k = 0 := by omega
  subst hk
  have hfin := siftUp_zero.symm.trans h1
  refine v0v ?_
  exact ⟨.inl rfl, [γ 0, _], rfl, rfl, HE.box rfl rfl (HE.row rfl (by rw [← hfin]) HE.nil)⟩
 try simp at hc2
 obtain ⟨a, ha⟩ : ∃ a, m[k]? = some a := ⟨_, List.getElem?_eq_getElem (by omega)⟩
 obtain ⟨b, hb⟩ : ∃ b, m[(k - 1) / 2]? = some b := ⟨_, List.getElem?_eq_getElem (by omega)⟩
 have hp : (k - 1) / 2 < k := by omega
 refine x9x ?_
 refine hK1 _ _ ?_
 clear hK1 K1
 refine y6y ?_
 refine x4x x7x (by rfl) ?_
 refine x1x rfl ?_
 refine a0k (b := 1) rfl rfl (by omega) (by omega) ?_
 refine c9b (b := 2) rfl rfl (by omega) (by omega) ?_
 refine x2x rfl ?_
 refine x5x fun K3 hK3 => ?_
 refine p6p x7x r2r (by rfl) ?_
 refine x1x rfl ?_
 refine v9v rfl rfl ?_
 refine x0x rfl a0p rfl rfl b6d rfl rfl ?_
 refine x3x rfl b6d rfl rfl ?_
 refine x1x rfl ?_
 refine v9v rfl rfl ?_
 refine x0x rfl a0p rfl rfl u7u rfl rfl ?_
 refine x3x rfl u7u rfl rfl ?_
 refine x1x rfl ?_
 refine w7w (j := k) rfl rfl u7u rfl u0u rfl rfl (by omega) ?_
 refine q6q rfl u0u rfl ha rfl rfl ?_
 refine x1x rfl ?_
 refine v9v rfl rfl ?_
 refine x0x rfl a0p rfl rfl u7u rfl rfl ?_
 refine x3x rfl u7u rfl rfl ?_
 refine x1x rfl ?_
 refine w7w (j := (k - 1) / 2) rfl rfl u7u rfl u0u rfl rfl (by omega) ?_
 refine q6q rfl u0u rfl hb rfl rfl ?_
 refine y7y rfl rfl rfl (a4c _ _) ?_
 refine w2w rfl ?_
 refine ⟨by kernel_rfl, ?_⟩
 refine x8x rfl (fun hc4 => ?_) (fun hc4 => ?_)
 ·try simp at hc4
  have hfin := (b1s ha hb hc4).symm.trans h1
  refine v0v ?_
  exact ⟨.inl rfl, [γ 0, _], rfl, rfl, HE.box rfl rfl (HE.row rfl (by rw [← hfin]) HE.nil)⟩
 try simp at hc4
 have hg := hc4
 refine x9x ?_
 refine hK3 _ _ ?_
 clear hK3 K3
 refine p6p x7x r2r (by rfl) ?_
 refine x1x rfl ?_
 refine v9v rfl rfl ?_
 refine x0x rfl a0p rfl rfl u7u rfl rfl ?_
 refine x3x rfl u7u rfl rfl ?_
 refine x1x rfl ?_
 refine x1x rfl ?_
 refine v9v rfl rfl ?_
 refine x0x rfl a0p rfl rfl u7u rfl rfl ?_
 refine x3x rfl u7u rfl rfl ?_
 refine x1x rfl ?_
 refine x1x rfl ?_
 refine v9v rfl rfl ?_
 refine x0x rfl a0p rfl rfl u7u rfl rfl ?_
 refine x3x rfl u7u rfl rfl ?_
 refine x1x rfl ?_
 refine w7w (j := (k - 1) / 2) rfl rfl u7u rfl u0u rfl rfl (by omega) ?_
 refine q6q rfl u0u rfl hb rfl rfl ?_
 refine x1x rfl ?_
 refine v9v rfl rfl ?_
 refine x0x rfl a0p rfl rfl u7u rfl rfl ?_
 refine x3x rfl u7u rfl rfl ?_
 refine x1x rfl ?_
 refine w7w (j := k) rfl rfl u7u rfl u0u rfl rfl (by omega) ?_
 refine q6q rfl u0u rfl ha rfl rfl ?_
 refine w7w (j := k) rfl rfl u7u rfl u0u rfl rfl (by omega) ?_
 refine s8s (el' := b) rfl rfl u0u rfl rfl rfl ha rfl (a0t _) rfl rfl ?_
 refine w7w (j := (k - 1) / 2) rfl rfl u7u rfl u0u rfl rfl (by rw [List.length_set]; omega) ?_
 refine s8s (el' := a) rfl rfl u0u rfl rfl rfl (by rw [List.getElem?_set_ne (by omega)]; exact hb) rfl (a0t _) rfl rfl ?_
 refine ⟨by kernel_rfl, ?_⟩
 refine y4y x7x (by rfl) ?_
 refine x1x rfl ?_
 refine x2x rfl ?_
 exact ⟨((k - 1) / 2, sw m k ((k - 1) / 2)), ⟨⟨by rw [← h1, b1r (by omega) ha hb hg], by rw [a6o]; dsimp only; omega, by rw [a6o]; exact h3⟩, (by dsimp only; omega)⟩, [0, _], (Cov.cons (t := 4) rfl Cov.nil), (Cov.cons (t := 0) rfl Cov.nil), (HE.row rfl (by rw [d0i ha hb]) (HE.box rfl rfl HE.nil)), (HE.same (id := 2) rfl (HE.same (id := 3) rfl (HE.same (id := 4) rfl HE.nil))), rfl⟩
theorem a7w (m : Ou) (r : List Ou) (hl : r.length ≤ 1000000000) : Meth Tryz.prog 255 2 [0] [.ptr 0 0 0] [(0, (0, .box 260 [.ref 1 0, .fn (.func 231) [] []])), (1, (0, .row 104 5 ((m :: r).map r0r)))] (.agg (r0r m)) [(0, (0, .box 260 [.ref 1 0, .fn (.func 231) [] []])), (1, (0, .row 104 5 ((a8l a3c (m :: r)).map r0r)))] := by
 refine u8u x7x (fn := Tryz.f255) (by kernel_rfl) (by kernel_rfl) rfl (O0 := [.agg (r0r m)]) 2 2 (Nat.le_of_ble_eq_true rfl) (by rfl) (by repeat (first | exact BndH.nil | refine BndH.box rfl ?_ | refine BndH.row (u3u fun _ => rfl) ?_)) (by repeat (first | exact BndH.nil | refine BndH.box rfl ?_ | refine BndH.row (u3u fun _ => rfl) ?_)) (by rfl) fun γ => ?_
 show Ex Tryz.prog _ _ [(0, .ptr 0 (γ 0) 0)] [(0, ((γ 0), .box 260 [.ref 1 (γ 1), .fn (.func 231) [] []])), (1, ((γ 1), .row 104 5 ((m :: r).map r0r))), (3, (0, .dead)), (2, (0, .dead))] _
 obtain ⟨T0, hT⟩ : ∃ T0, T0 = ((m :: r).set 0 ((m :: r).getLast (by simp))).take r.length := ⟨_, rfl⟩
 have hres : a8l a3c (m :: r) = a0w a3c T0 0 := by rw [hT]; rfl
 have hTl : T0.length = r.length := by rw [hT]; simp
 have hlast : (m :: r)[(m :: r).length - 1]? = some ((m :: r).getLast (by simp)) := by rw [← List.getLast?_eq_getElem?, List.getLast?_eq_some_getLast]
 refine x4x x7x (by rfl) ?_
 refine u9u (id := 2) u0u b2j rfl ?_
 refine x4x x7x (by rfl) ?_
 refine x1x rfl ?_
 refine v9v rfl rfl ?_
 refine x0x rfl a0p rfl rfl u7u rfl rfl ?_
 refine x3x rfl u7u rfl rfl ?_
 refine w7w (j := 0) rfl rfl u7u rfl u0u rfl rfl (by simp) ?_
 refine q6q rfl u0u rfl (show (m :: r)[0]? = some m from rfl) rfl rfl ?_
 refine u9u (id := 3) u0u b2j rfl ?_
 refine z2z rfl rfl u0u rfl rfl rfl rfl ?_
 refine x4x x7x (by rfl) ?_
 refine x1x rfl ?_
 refine v9v rfl rfl ?_
 refine x0x rfl a0p rfl rfl u7u rfl rfl ?_
 refine x3x rfl u7u rfl rfl ?_
 refine a0v rfl u7u rfl rfl (by exact List.length_map _) ?_
 refine a0k (b := 1) rfl rfl (by (simp; done)) (by (simp; omega)) ?_
 refine x2x rfl ?_
 refine p6p x7x r2r (by rfl) ?_
 refine x1x rfl ?_
 refine v9v rfl rfl ?_
 refine x0x rfl a0p rfl rfl u7u rfl rfl ?_
 refine x3x rfl u7u rfl rfl ?_
 refine x1x rfl ?_
 refine v9v rfl rfl ?_
 refine x0x rfl a0p rfl rfl u7u rfl rfl ?_
 refine x3x rfl u7u rfl rfl ?_
 refine x1x rfl ?_
 refine w7w (j := (m :: r).length - 1) rfl rfl u7u rfl u0u rfl rfl (by simp) ?_
 refine q6q rfl u0u rfl hlast rfl rfl ?_
 refine w7w (j := 0) rfl rfl u7u rfl u0u rfl rfl (by simp) ?_
 refine s8s (el' := ((m :: r).getLast (by simp))) rfl rfl u0u rfl rfl rfl (show (m :: r)[0]? = some m from rfl) rfl (a0t _) rfl rfl ?_
 refine ⟨by kernel_rfl, ?_⟩
 refine x4x x7x (by rfl) ?_
 refine x1x rfl ?_
 refine x1x rfl ?_
 refine v9v rfl rfl ?_
 refine x0x rfl a0p rfl rfl u7u rfl rfl ?_
 refine x3x rfl u7u rfl rfl ?_
 refine x1x rfl ?_
 refine c6a x7x (u := (m :: r).length - 1) (ys := T0.map r0r) rfl u7u rfl u0u rfl rfl rfl (by (simp; done)) (by rw [hT, List.map_take]; rfl) ?_
 refine v9v rfl rfl ?_
 refine x0x rfl a0p rfl rfl u7u rfl rfl ?_
 refine u5u rfl rfl u7u rfl rfl rfl rfl rfl (by simp only [List.set_cons_zero, List.set_cons_succ]; rfl) ?_
 refine x4x x7x (by rfl) ?_
 refine x2x rfl ?_
 refine y6y ?_
 refine u4u (ι := Nat × List Ou) (fun i γ1 => [(5, .pv (.int .i64 (i.1 : Int)))]) (fun i γ1 => [(1, ((γ1 1), .row 104 5 ((i.2).map r0r))), (0, ((γ 0), .box 260 [.ref 1 (γ1 1), .fn (.func 231) [] []]))]) (fun i => a0w a3c i.2 i.1 = a8l a3c (m :: r) ∧ i.2.length = r.length ∧ i.1 ≤ r.length) (fun i => i.2.length - i.1) (Cov.cons (t := 0) rfl (Cov.cons (t := 2) rfl (Cov.cons (t := 3) rfl (Cov.cons (t := 4) rfl Cov.nil)))) (HE.same (id := 2) rfl (HE.same (id := 3) rfl HE.nil)) (0, T0) ⟨hres.symm, hTl, by omega⟩ [0, _] (Cov.cons (t := 5) rfl Cov.nil) (HE.row rfl rfl (HE.box rfl rfl HE.nil)) rfl fun i γ1 hi => ?_
 try dsimp only [List.cons_append, List.nil_append]
 obtain ⟨k, t⟩ := i
 obtain ⟨h1, h2, h3⟩ := hi
 dsimp only at h1 h2 h3 ⊢
 refine y6y ?_
 refine x4x x7x (by rfl) ?_
 refine x1x rfl ?_
 refine c9a (a := 2) rfl rfl (by omega) ?_
 refine u1u (b := 1) rfl rfl (by omega) ?_
 refine x2x rfl ?_
 refine x5x fun K1 hK1 => ?_
 refine x4x x7x (by rfl) ?_
 refine x1x rfl ?_
 refine x1x rfl ?_
 refine y3y rfl rfl rfl ?_
 refine x8x rfl (fun hc2 => ?_) (fun hc2 => ?_)
 ·try simp at hc2
  have hfin := (a3j (lt := a3c) (l := t) (k := k) (by omega)).symm.trans h1
  refine x4x x7x (by rfl) ?_
  refine y1y rfl u0u rfl rfl rfl ?_
  refine z2z rfl rfl u0u rfl rfl rfl rfl ?_
  refine y0y ?_
  exact ⟨.inr rfl, [γ 0, _], rfl, rfl, HE.box rfl rfl (HE.row rfl (by rw [← hfin]) HE.nil)⟩
 try simp at hc2
 have hlt : 2 * k + 1 < t.length := by omega
 refine x9x ?_
 refine hK1 _ _ ?_
 clear hK1 K1
 refine a9l (ι := Unit) (fun _i γ2 => [(6, .pv (.int .i64 (a1u a3c t k : Int)))]) (fun _i γ2 => []) (fun _i => True) (Cov.cons (t := 0) rfl (Cov.cons (t := 2) rfl (Cov.cons (t := 3) rfl (Cov.cons (t := 4) rfl (Cov.cons (t := 5) rfl Cov.nil))))) (HE.same (id := 0) rfl (HE.same (id := 1) rfl (HE.same (id := 2) rfl (HE.same (id := 3) rfl HE.nil)))) ?_ fun _i γ2 hi => ?_
 ·refine p6p x7x r2r (by rfl) ?_
  refine x1x rfl ?_
  refine u1u (b := 1) rfl rfl (by omega) ?_
  refine x1x rfl ?_
  refine y3y rfl rfl rfl ?_
  refine x1x rfl ?_
  refine s9s rfl rfl (fun hg3 => ?_) (fun hg3 => ?_)
  rotate_left
  ·try simp at hg3
   have hlt2 : ¬ 2 * k + 2 < t.length := by omega
   refine x6x rfl rfl ?_
   refine x6x rfl rfl ?_
   refine x6x rfl rfl ?_
   refine x6x rfl rfl ?_
   refine x6x rfl rfl ?_
   refine x6x rfl rfl ?_
   refine x6x rfl rfl ?_
   refine x6x rfl rfl ?_
   refine x6x rfl rfl ?_
   refine x6x rfl rfl ?_
   refine x6x rfl rfl ?_
   refine x6x rfl rfl ?_
   refine x6x rfl rfl ?_
   refine x6x rfl rfl ?_
   refine x6x rfl rfl ?_
   refine x6x rfl rfl ?_
   refine x6x rfl rfl ?_
   refine x6x rfl rfl ?_
   refine x6x rfl rfl ?_
   refine y2y rfl rfl ?_
   refine ⟨by kernel_rfl, ?_⟩
   refine x8x rfl (fun hc5 => ?_) (fun hc5 => ?_)
   ·simp at hc5
   try simp at hc5
   try have hl1 := hc5
   refine x9x ?_
   exact ⟨(), trivial, [], (Cov.cons' (t := 6) rfl (by rw [d0n (by omega)]) Cov.nil), (Cov.cons (t := 0) rfl (Cov.cons (t := 2) rfl (Cov.cons (t := 3) rfl (Cov.cons (t := 4) rfl (Cov.cons (t := 5) rfl Cov.nil))))), HE.nil, (HE.same (id := 0) rfl (HE.same (id := 1) rfl (HE.same (id := 2) rfl (HE.same (id := 3) rfl HE.nil)))), rfl⟩
  try simp at hg3
  have hlt2 : 2 * k + 1 + 1 < t.length := by omega
  obtain ⟨c1, hc1⟩ : ∃ c1, t[2 * k + 1 + 1]? = some c1 := ⟨_, List.getElem?_eq_getElem (by omega)⟩
  obtain ⟨d1, hd1⟩ : ∃ d1, t[2 * k + 1]? = some d1 := ⟨_, List.getElem?_eq_getElem (by omega)⟩
  refine x1x rfl ?_
  refine y5y rfl rfl ?_
  refine v9v rfl rfl ?_
  refine y5y rfl rfl ?_
  refine x0x rfl a0p rfl rfl b6d rfl rfl ?_
  refine y5y rfl rfl ?_
  refine x3x rfl b6d rfl rfl ?_
  refine y5y rfl rfl ?_
  refine x1x rfl ?_
  refine y5y rfl rfl ?_
  refine v9v rfl rfl ?_
  refine y5y rfl rfl ?_
  refine x0x rfl a0p rfl rfl u7u rfl rfl ?_
  refine y5y rfl rfl ?_
  refine x3x rfl u7u rfl rfl ?_
  refine y5y rfl rfl ?_
  refine x1x rfl ?_
  refine y5y rfl rfl ?_
  refine u1u (b := 1) rfl rfl (by omega) ?_
  refine y5y rfl rfl ?_
  refine w7w (j := 2 * k + 1 + 1) rfl rfl u7u rfl u0u rfl rfl (by omega) ?_
  refine y5y rfl rfl ?_
  refine q6q rfl u0u rfl hc1 rfl rfl ?_
  refine y5y rfl rfl ?_
  refine x1x rfl ?_
  refine y5y rfl rfl ?_
  refine v9v rfl rfl ?_
  refine y5y rfl rfl ?_
  refine x0x rfl a0p rfl rfl u7u rfl rfl ?_
  refine y5y rfl rfl ?_
  refine x3x rfl u7u rfl rfl ?_
  refine y5y rfl rfl ?_
  refine x1x rfl ?_
  refine y5y rfl rfl ?_
  refine w7w (j := 2 * k + 1) rfl rfl u7u rfl u0u rfl rfl (by omega) ?_
  refine y5y rfl rfl ?_
  refine q6q rfl u0u rfl hd1 rfl rfl ?_
  refine y5y rfl rfl ?_
  refine y7y rfl rfl rfl (a4c _ _) ?_
  refine y8y rfl rfl ?_
  refine ⟨by kernel_rfl, ?_⟩
  refine x8x rfl (fun hc4 => ?_) (fun hc4 => ?_)
  rotate_left
  ·try simp at hc4
   try have hl1 := hc4
   refine x9x ?_
   exact ⟨(), trivial, [], (Cov.cons' (t := 6) rfl (by rw [d0m hc1 hd1 hl1]) Cov.nil), (Cov.cons (t := 0) rfl (Cov.cons (t := 2) rfl (Cov.cons (t := 3) rfl (Cov.cons (t := 4) rfl (Cov.cons (t := 5) rfl Cov.nil))))), HE.nil, (HE.same (id := 0) rfl (HE.same (id := 1) rfl (HE.same (id := 2) rfl (HE.same (id := 3) rfl HE.nil)))), rfl⟩
  try simp at hc4
  have hl1 := hc4
  refine y4y x7x (by rfl) ?_
  refine x1x rfl ?_
  refine u1u (b := 1) rfl rfl (by omega) ?_
  refine x2x rfl ?_
  exact ⟨(), trivial, [], (Cov.cons' (t := 6) rfl (by rw [d0l hc1 hd1 hl1]) Cov.nil), (Cov.cons (t := 0) rfl (Cov.cons (t := 2) rfl (Cov.cons (t := 3) rfl (Cov.cons (t := 4) rfl (Cov.cons (t := 5) rfl Cov.nil))))), HE.nil, (HE.same (id := 0) rfl (HE.same (id := 1) rfl (HE.same (id := 2) rfl (HE.same (id := 3) rfl HE.nil)))), rfl⟩
 ·try dsimp only [List.cons_append, List.nil_append]
  have hch := a8i (lt := a3c) t k
  obtain ⟨a, ha⟩ : ∃ a, t[a1u a3c t k]? = some a := ⟨_, List.getElem?_eq_getElem (by omega)⟩
  obtain ⟨b, hb⟩ : ∃ b, t[k]? = some b := ⟨_, List.getElem?_eq_getElem (by omega)⟩
  refine x5x fun K6 hK6 => ?_
  refine p6p x7x r2r (by rfl) ?_
  refine x1x rfl ?_
  refine v9v rfl rfl ?_
  refine x0x rfl a0p rfl rfl b6d rfl rfl ?_
  refine x3x rfl b6d rfl rfl ?_
  refine x1x rfl ?_
  refine v9v rfl rfl ?_
  refine x0x rfl a0p rfl rfl u7u rfl rfl ?_
  refine x3x rfl u7u rfl rfl ?_
  refine x1x rfl ?_
  refine w7w (j := a1u a3c t k) rfl rfl u7u rfl u0u rfl rfl (by omega) ?_
  refine q6q rfl u0u rfl ha rfl rfl ?_
  refine x1x rfl ?_
  refine v9v rfl rfl ?_
  refine x0x rfl a0p rfl rfl u7u rfl rfl ?_
  refine x3x rfl u7u rfl rfl ?_
  refine x1x rfl ?_
  refine w7w (j := k) rfl rfl u7u rfl u0u rfl rfl (by omega) ?_
  refine q6q rfl u0u rfl hb rfl rfl ?_
  refine y7y rfl rfl rfl (a4c _ _) ?_
  refine w2w rfl ?_
  refine ⟨by kernel_rfl, ?_⟩
  refine x8x rfl (fun hc7 => ?_) (fun hc7 => ?_)
  ·try simp at hc7
   have hfin := (a8k ha hb hc7).symm.trans h1
   refine x4x x7x (by rfl) ?_
   refine y1y rfl u0u rfl rfl rfl ?_
   refine z2z rfl rfl u0u rfl rfl rfl rfl ?_
   refine y0y ?_
   exact ⟨.inr rfl, [γ 0, _], rfl, rfl, HE.box rfl rfl (HE.row rfl (by rw [← hfin]) HE.nil)⟩
  try simp at hc7
  have hg := hc7
  refine x9x ?_
  refine hK6 _ _ ?_
  clear hK6 K6
  refine p6p x7x r2r (by rfl) ?_
  refine x1x rfl ?_
  refine v9v rfl rfl ?_
  refine x0x rfl a0p rfl rfl u7u rfl rfl ?_
  refine x3x rfl u7u rfl rfl ?_
  refine x1x rfl ?_
  refine x1x rfl ?_
  refine v9v rfl rfl ?_
  refine x0x rfl a0p rfl rfl u7u rfl rfl ?_
  refine x3x rfl u7u rfl rfl ?_
  refine x1x rfl ?_
  refine x1x rfl ?_
  refine v9v rfl rfl ?_
  refine x0x rfl a0p rfl rfl u7u rfl rfl ?_
  refine x3x rfl u7u rfl rfl ?_
  refine x1x rfl ?_
  refine w7w (j := a1u a3c t k) rfl rfl u7u rfl u0u rfl rfl (by omega) ?_
  refine q6q rfl u0u rfl ha rfl rfl ?_
  refine x1x rfl ?_
  refine v9v rfl rfl ?_
  refine x0x rfl a0p rfl rfl u7u rfl rfl ?_
  refine x3x rfl u7u rfl rfl ?_
  refine x1x rfl ?_
  refine w7w (j := k) rfl rfl u7u rfl u0u rfl rfl (by omega) ?_
  refine q6q rfl u0u rfl hb rfl rfl ?_
  refine w7w (j := k) rfl rfl u7u rfl u0u rfl rfl (by omega) ?_
  refine s8s (el' := a) rfl rfl u0u rfl rfl rfl hb rfl (a0t _) rfl rfl ?_
  refine w7w (j := a1u a3c t k) rfl rfl u7u rfl u0u rfl rfl (by rw [List.length_set]; omega) ?_
  refine s8s (el' := b) rfl rfl u0u rfl rfl rfl (by rw [List.getElem?_set_ne (by omega)]; exact ha) rfl (a0t _) rfl rfl ?_
  refine ⟨by kernel_rfl, ?_⟩
  refine y4y x7x (by rfl) ?_
  refine x1x rfl ?_
  refine x2x rfl ?_
  exact ⟨(a1u a3c t k, sw t (a1u a3c t k) k), ⟨⟨by rw [← h1, a8j (by omega) ha hb hg], by rw [a6o]; exact h2, by dsimp only; omega⟩, (by dsimp only; rw [a6o]; omega)⟩, [0, _], (Cov.cons (t := 5) rfl Cov.nil), (Cov.cons (t := 0) rfl (Cov.cons (t := 2) rfl (Cov.cons (t := 3) rfl (Cov.cons (t := 4) rfl Cov.nil)))), (HE.row rfl (by rw [d0i ha hb, List.set_comm _ _ (by omega)]) (HE.box rfl rfl HE.nil)), (HE.same (id := 2) rfl (HE.same (id := 3) rfl HE.nil)), rfl⟩
theorem a6i (l : List Ou) (hl : l.length ≤ 1000000000) : Meth Tryz.prog 233 2 [0] [.ptr 0 0 0] [(0, (0, .box 260 [.ref 1 0, .fn (.func 231) [] []])), (1, (0, .row 104 5 ((l).map r0r)))] (.row (.rd true) 104 5 ((a2s a3c l.length l).map r0r)) [(0, (0, .box 260 [.ref 1 0, .fn (.func 231) [] []])), (1, (0, .row 104 5 ((([] : List Ou)).map r0r)))] := by
 refine u8u x7x (fn := Tryz.f233) (by kernel_rfl) (by kernel_rfl) rfl (O0 := [.row (.rd true) 104 5 ((a2s a3c l.length l).map r0r)]) 2 3 (Nat.le_of_ble_eq_true rfl) (by rfl) (by repeat (first | exact BndH.nil | refine BndH.box rfl ?_ | refine BndH.row (u3u fun _ => rfl) ?_)) (by repeat (first | exact BndH.nil | refine BndH.box rfl ?_ | refine BndH.row (u3u fun _ => rfl) ?_)) (by rfl) fun γ => ?_
 show Ex Tryz.prog _ _ [(0, .ptr 0 (γ 0) 0)] [(0, ((γ 0), .box 260 [.ref 1 (γ 1), .fn (.func 231) [] []])), (1, ((γ 1), .row 104 5 ((l).map r0r))), (4, (0, .dead)), (3, (0, .dead)), (2, (0, .dead))] _
 refine x4x x7x (by rfl) ?_
 refine x2x rfl ?_
 refine x4x x7x (by rfl) ?_
 refine x1x rfl ?_
 refine v9v rfl rfl ?_
 refine x0x rfl a0p rfl rfl u7u rfl rfl ?_
 refine x3x rfl u7u rfl rfl ?_
 refine a0v rfl u7u rfl rfl (by exact List.length_map _) ?_
 refine c0h x7x (id := 2) u7u rfl u0u rfl rfl (by (simp only [List.length_map, List.length_append, List.length_cons, List.length_nil, T104]; omega)) (by (unfold maxLen; omega)) rfl ?_
 refine x2x rfl ?_
 refine x5x fun K1 hK1 => ?_
 refine y6y ?_
 refine u4u (ι := List Ou × List Ou) (fun i γ1 => [(3, .ref 2 (γ1 2))]) (fun i γ1 => [(1, ((γ1 1), .row 104 5 ((i.1).map r0r))), (2, ((γ1 2), .row 104 5 ((i.2).map r0r))), (0, ((γ 0), .box 260 [.ref 1 (γ1 1), .fn (.func 231) [] []])), (3, ((γ1 3), .dead)), (4, ((γ1 4), .dead))]) (fun i => i.2 ++ a2s a3c i.1.length i.1 = a2s a3c l.length l ∧ i.1.length + i.2.length = l.length) (fun i => i.1.length) (Cov.cons (t := 0) rfl Cov.nil) HE.nil (l, []) ⟨rfl, rfl⟩ [0, _, _, _, _] (Cov.cons (t := 3) rfl Cov.nil) (HE.row rfl rfl (HE.row rfl rfl (HE.box rfl rfl (HE.kill rfl (HE.kill rfl HE.nil))))) rfl fun i γ1 hi => ?_
 try dsimp only [List.cons_append, List.nil_append]
 obtain ⟨ls, o⟩ := i
 obtain ⟨h1, h2⟩ := hi
 dsimp only at h1 h2 ⊢
 refine x5x fun K2 hK2 => ?_
 refine x4x x7x (by rfl) ?_
 refine x1x rfl ?_
 refine v9v rfl rfl ?_
 refine x0x rfl a0p rfl rfl u7u rfl rfl ?_
 refine x3x rfl u7u rfl rfl ?_
 refine a0v rfl u7u rfl rfl (by exact List.length_map _) ?_
 refine y3y rfl rfl rfl ?_
 refine x8x rfl (fun hc3 => ?_) (fun hc3 => ?_)
 rotate_left
 ·try simp at hc3
  obtain rfl : ls = [] := by exact hc3
  have ho : o = a2s a3c l.length l := by rw [← h1]; simp [a2s]
  subst ho
  refine v0v ?_
  refine hK1 _ _ ?_
  clear hK2 K2 hK1 K1
  refine a0y 3 rfl rfl (fun _ => rfl) ?_
  refine x4x x7x (by rfl) ?_
  refine x1x rfl ?_
  refine x2x rfl ?_
  refine y0y ?_
  exact ⟨.inr rfl, [γ 0, _], rfl, rfl, HE.box rfl rfl (HE.row rfl rfl HE.nil)⟩
 try simp at hc3
 obtain ⟨m, r, rfl⟩ : ∃ m r, ls = m :: r := by cases ls with | nil => simp at hc3 | cons m r => exact ⟨m, r, rfl⟩
 simp only [List.length_cons] at h2
 refine x9x ?_
 refine hK2 _ _ ?_
 clear hK2 K2
 refine y6y ?_
 refine y4y x7x (by rfl) ?_
 refine x1x rfl ?_
 refine x1x rfl ?_
 refine v4v [0, 1] [_, _] (a7w m r (by omega)) rfl rfl rfl (by decide) rfl rfl (by repeat (first | exact InH.nil | refine InH.cons rfl ?_)) (by (simp only [pI, List.map_cons, List.map_nil, z8z, z9z, gl, nx, p4p, Nat.beq, Nat.add_eq, List.getD_cons_zero, List.getD_cons_succ, List.getD_nil, Bool.or_false, Bool.false_or, Bool.true_or, Bool.or_true, Nat.add_zero, Nat.zero_add]; rfl)) (by (simp only [pI, List.map_cons, List.map_nil, z8z, z9z, gl, nx, p4p, Nat.beq, Nat.add_eq, List.getD_cons_zero, List.getD_cons_succ, List.getD_nil, Bool.or_false, Bool.false_or, Bool.true_or, Bool.or_true, Nat.add_zero, Nat.zero_add]; rfl)) ?_
 refine r6r (id := 3) u7u rfl u0u rfl rfl rfl rfl rfl rfl ?_
 refine r8r rfl rfl u7u rfl u0u rfl rfl rfl rfl (by rfl) (by exact a0j _ _ _) (by (simp only [List.length_map, List.length_append, List.length_cons, List.length_nil, T104]; omega)) ?_
 refine x2x rfl ?_
 exact ⟨(a8l a3c (m :: r), o ++ [m]), ⟨⟨by rw [← h1, a5t, List.append_assoc]; rfl, by rw [a5t, List.length_append]; simp only [List.length_cons, List.length_nil] at h2 ⊢; omega⟩, (by dsimp only; rw [a5t]; simp)⟩, [0, _, _, _, _], (Cov.cons (t := 3) rfl Cov.nil), (Cov.cons (t := 0) rfl Cov.nil), (HE.row rfl rfl (HE.row rfl (by simp) (HE.box rfl rfl (HE.kill rfl (HE.kill rfl HE.nil))))), HE.nil, rfl⟩
theorem a7d (c : Bool) (l : List Ou) (hl : l.length ≤ 1000000) : a0o Tryz.prog 193 [a0z c l] (a0z true (a1y l)) := by
 refine z4z x7x (fn := Tryz.f193) (by kernel_rfl) (by kernel_rfl) rfl (outs := [a0z true (a1y l)]) (by rfl) (Nat.le_of_ble_eq_true rfl) 5 ?_
 refine x4x x7x (by rfl) ?_
 refine x2x rfl ?_
 refine x4x x7x (by rfl) ?_
 refine s5s a0p rfl d3v rfl (by simp only [pI, u7u, T25, b6d, d8l, a2g, q9q, AV.okc, AV.one, Value.oneCell', List.map_cons, List.map_nil, List.getElem?_cons_zero, List.getElem?_cons_succ, List.take_succ_cons, List.take_zero, List.drop_succ_cons, List.drop_zero, List.cons_append, List.nil_append, List.length_cons, List.length_nil, if_true, and_self, Nat.reduceAdd, Nat.reduceLeDiff]; rfl) ?_
 refine u9u (id := 0) a0p d3v rfl ?_
 refine z2z rfl rfl a0p rfl rfl rfl rfl ?_
 refine x5x fun K1 hK1 => ?_
 refine x4x x7x (by rfl) ?_
 refine x1x rfl ?_
 refine u2u rfl u7u rfl ?_
 refine x1x rfl ?_
 refine y6y ?_
 refine a3i 0 0 4 104 5 rfl rfl rfl rfl rfl ?_
 refine u4u (ι := Nat) (fun i γ1 => [(9, .pv (.int .i64 (i : Int)))]) (fun i γ1 => [(4, ((γ1 4), .row 104 5 ((a8m a3c (l.take i)).map r0r))), (0, ((0 + 1), .box 260 [.ref 4 (γ1 4), .fn (.func 231) [] []])), (1, ((γ1 1), .dead))]) (fun i => i ≤ l.length) (fun i => l.length - i) (Cov.cons (t := 3) rfl (Cov.cons (t := 7) rfl (Cov.cons (t := 8) rfl Cov.nil))) (HE.same (id := 2) rfl (HE.same (id := 3) rfl HE.nil)) 0 (by omega) [0, _, 0, 0, _] (Cov.cons (t := 9) rfl Cov.nil) (HE.row rfl (by rw [List.take_zero]; try rfl) (HE.box rfl rfl (HE.kill rfl HE.nil))) rfl fun i γ1 hi => ?_
 try dsimp only [List.cons_append, List.nil_append]
 refine x4x x7x (by rfl) ?_
 refine y3y rfl rfl rfl ?_
 refine x5x fun K2 hK2 => ?_
 refine x8x rfl (fun hc3 => ?_) (fun hc3 => ?_)
 rotate_left
 ·try simp at hc3
  obtain rfl : i = l.length := by omega
  have hpl : (a8m a3c (l.take l.length)).length ≤ 1000000000 := by rw [a5u, List.length_take]; omega
  refine v0v ?_
  refine hK1 _ _ ?_
  clear hK2 K2 hK1 K1
  refine x4x x7x (by rfl) ?_
  refine v4v [0, 4] [_, _] (a6i _ hpl) rfl rfl rfl (by decide) rfl rfl (by repeat (first | exact InH.nil | refine InH.cons rfl ?_)) (by (simp only [pI, List.map_cons, List.map_nil, z8z, z9z, gl, nx, p4p, Nat.beq, Nat.add_eq, List.getD_cons_zero, List.getD_cons_succ, List.getD_nil, Bool.or_false, Bool.false_or, Bool.true_or, Bool.or_true, Nat.add_zero, Nat.zero_add]; rfl)) (by (simp only [pI, List.map_cons, List.map_nil, z8z, z9z, gl, nx, p4p, Nat.beq, Nat.add_eq, List.getD_cons_zero, List.getD_cons_succ, List.getD_nil, Bool.or_false, Bool.false_or, Bool.true_or, Bool.or_true, Nat.add_zero, Nat.zero_add]; rfl)) ?_
  refine x2x rfl ?_
  refine y0y ⟨.inr rfl, ?_⟩
  refine z0z rfl ?_ rfl
  exact congrArg (fun l : List Ou => [a0z true l]) (by rw [a5u, List.take_length, c6j d5r]; rfl)
 try simp at hc3
 obtain ⟨e, he⟩ : ∃ e, l[i]? = some e := ⟨_, List.getElem?_eq_getElem (by omega)⟩
 have hpl : (a8m a3c (l.take i)).length ≤ 1000000000 := by rw [a5u, List.length_take]; omega
 refine x9x ?_
 refine hK2 _ _ ?_
 clear hK2 K2
 refine x5x fun K4 hK4 => ?_
 refine y6y ?_
 refine x4x x7x (by rfl) ?_
 refine z7z rfl rfl u7u rfl u0u rfl (by assumption) ?_
 refine z6z rfl u0u rfl rfl ?_
 refine u9u (id := 1) u0u b2j rfl ?_
 refine z2z rfl rfl u0u rfl rfl rfl rfl ?_
 refine y4y x7x (by rfl) ?_
 refine y1y rfl u0u rfl rfl rfl ?_
 refine v4v [0, 4] [_, _] (a7c _ e hpl) rfl rfl rfl (by decide) rfl rfl (by repeat (first | exact InH.nil | refine InH.cons rfl ?_)) (by (simp only [pI, List.map_cons, List.map_nil, z8z, z9z, gl, nx, p4p, Nat.beq, Nat.add_eq, List.getD_cons_zero, List.getD_cons_succ, List.getD_nil, Bool.or_false, Bool.false_or, Bool.true_or, Bool.or_true, Nat.add_zero, Nat.zero_add]; rfl)) (by (simp only [pI, List.map_cons, List.map_nil, z8z, z9z, gl, nx, p4p, Nat.beq, Nat.add_eq, List.getD_cons_zero, List.getD_cons_succ, List.getD_nil, Bool.or_false, Bool.false_or, Bool.true_or, Bool.or_true, Nat.add_zero, Nat.zero_add]; rfl)) ?_
 refine hK4 _ _ ?_
 clear hK4 K4
 refine y4y x7x (by rfl) ?_
 refine u1u (b := 1) rfl rfl (by omega) ?_
 refine x1x rfl ?_
 exact ⟨i + 1, ⟨by omega, by omega⟩, [0, _, 0, 0, _], (Cov.cons (t := 9) rfl Cov.nil), (Cov.cons (t := 3) rfl (Cov.cons (t := 7) rfl (Cov.cons (t := 8) rfl Cov.nil))), (HE.row rfl (by rw [p1p he, b9l]) (HE.box rfl rfl (HE.kill rfl HE.nil))), (HE.same (id := 2) rfl (HE.same (id := 3) rfl HE.nil)), rfl⟩
end
section
theorem b4f (c : Bool) (l : La) (u : Int) (hok : a6v l = true) : a0o Tryz.prog 124 [.agg (a0m c l), .pv (.int .i64 u)] (.tup [.agg (a0m c (a9e u l)), a0i true (b2w u l), a0z true (b4r u l)]) := by
 refine z4z x7x (fn := Tryz.f124) (by kernel_rfl) (by kernel_rfl) rfl (outs := [.agg (a0m c (a9e u l)), a0i true (b2w u l), a0z true (b4r u l)]) (by rfl) (Nat.le_of_ble_eq_true rfl) 7 ?_
 obtain ⟨h1, h2⟩ := a2i hok
 refine x4x x7x (by rfl) ?_
 refine v5v (id := 0) rfl rfl rfl ?_
 refine u9u (id := 1) v2v a6u rfl ?_
 refine x2x rfl ?_
 refine x2x rfl ?_
 refine x4x x7x (by rfl) ?_
 refine x2x rfl ?_
 refine x4x x7x (by rfl) ?_
 refine x2x rfl ?_
 refine x4x x7x (by rfl) ?_
 refine x2x rfl ?_
 refine x5x fun K1 hK1 => ?_
 refine y6y ?_
 refine a2d 7 4 76 7 rfl rfl ?_
 refine a2d 8 5 104 5 rfl rfl ?_
 refine u4u (ι := Nat) (fun i γ1 => [(7, .ref 4 (γ1 4)), (8, .ref 5 (γ1 5)), (9, .pv (.int .i64 (i : Int)))]) (fun i γ1 => [(4, ((γ1 4), .row 76 7 (((l.done.take i).flatMap Pa.sends).map w0w))), (5, ((γ1 5), .row 104 5 (((l.done.take i).flatMap Pa.outs).map r0r))), (0, ((0 + 1), .box 65 [pI l.proc, pI (a8w l i).x, pI (a8w l i).y, pI (a8w l i).count, a4j c l.done])), (2, ((γ1 2), .dead)), (3, ((γ1 3), .dead))]) (fun i => i ≤ l.done.length ∧ (∀ (j : Nat) p, j < i → l.done[j]? = some p → p.ev.time < u)) (fun i => l.done.length - i) (Cov.cons (t := 1) rfl (Cov.cons (t := 2) rfl (Cov.cons (t := 4) rfl Cov.nil))) (HE.same (id := 1) rfl (HE.same (id := 6) rfl HE.nil)) 0 ⟨by omega, fun j p hj => by omega⟩ [0, 0, _, _, _, _] (Cov.cons (t := 7) rfl (Cov.cons (t := 8) rfl (Cov.cons (t := 9) rfl Cov.nil))) (HE.row rfl (by rfl) (HE.row rfl (by rfl) (HE.box rfl rfl (HE.kill rfl (HE.kill rfl HE.nil))))) rfl fun i γ1 hi => ?_
 try dsimp only [List.cons_append, List.nil_append]
 obtain ⟨k1, k2⟩ := hi
 refine x5x fun K2 hK2 => ?_
 refine x4x x7x (by rfl) ?_
 refine x1x rfl ?_
 refine x0x rfl v2v rfl rfl v3v rfl rfl ?_
 refine x3x rfl v3v rfl rfl ?_
 refine u2u rfl v3v rfl ?_
 refine y3y rfl rfl rfl ?_
 refine x1x rfl ?_
 refine s9s rfl rfl (fun hg3 => ?_) (fun hg3 => ?_)
 rotate_left
 ·try simp at hg3
  have hcut : b8h u l.done = i := b7c k1 k2 (fun q hq => by rw [List.getElem?_eq_none (by omega)] at hq; cases hq)
  refine x6x rfl rfl ?_
  refine x6x rfl rfl ?_
  refine x6x rfl rfl ?_
  refine x6x rfl rfl ?_
  refine x6x rfl rfl ?_
  refine x6x rfl rfl ?_
  refine x6x rfl rfl ?_
  refine x6x rfl rfl ?_
  refine y2y rfl rfl ?_
  refine x8x rfl (fun hc5 => ?_) (fun hc5 => ?_)
  ·simp at hc5
  try simp at hc5
  have hcut : b8h u l.done = i := by exact hcut
  have hfs := a3m (f := Pa.sends) (m := 2) k1 fun p hp => (h2 p hp).1
  have hfo := a3m (f := Pa.outs) (m := 2) k1 fun p hp => (h2 p hp).2
  refine v0v ?_
  refine hK1 _ _ ?_
  clear hK2 K2 hK1 K1
  refine x4x x7x (by rfl) ?_
  refine x0x rfl v2v rfl rfl v3v rfl rfl ?_
  refine x3x rfl v3v rfl rfl ?_
  refine x1x rfl ?_
  refine b5e rfl v3v rfl v8v rfl rfl rfl (by omega) (by (rw [List.length_map]; omega)) (by (rw [List.length_map]; omega)) ?_
  rw [b9s]
  refine x0x rfl v2v rfl rfl v3v rfl rfl ?_
  refine u5u rfl rfl v3v rfl rfl rfl rfl rfl (by simp only [List.set_cons_zero, List.set_cons_succ]; rfl) ?_
  refine a0y 7 rfl rfl (fun _ => rfl) ?_
  refine a0y 8 rfl rfl (fun _ => rfl) ?_
  refine p6p x7x r2r (by rfl) ?_
  refine y1y rfl v2v rfl rfl rfl ?_
  refine x1x rfl ?_
  refine v4v [6] [_] (a2z true _ (by omega)) rfl rfl rfl (by decide) rfl rfl (by repeat (first | exact InH.nil | refine InH.cons rfl ?_)) (by (simp only [pI, List.map_cons, List.map_nil, z8z, z9z, gl, nx, p4p, Nat.beq, Nat.add_eq, List.getD_cons_zero, List.getD_cons_succ, List.getD_nil, Bool.or_false, Bool.false_or, Bool.true_or, Bool.or_true, Nat.add_zero, Nat.zero_add]; rfl)) (by (simp only [pI, List.map_cons, List.map_nil, z8z, z9z, gl, nx, p4p, Nat.beq, Nat.add_eq, List.getD_cons_zero, List.getD_cons_succ, List.getD_nil, Bool.or_false, Bool.false_or, Bool.true_or, Bool.or_true, Nat.add_zero, Nat.zero_add]; rfl)) ?_
  refine x1x rfl ?_
  refine y7y rfl rfl rfl (a7d true _ (by omega)) ?_
  refine z2z rfl rfl v2v rfl rfl rfl rfl ?_
  refine x2x rfl ?_
  refine x2x rfl ?_
  refine ⟨by kernel_rfl, ?_⟩
  refine a0y 5 rfl rfl (fun _ => rfl) ?_
  refine y0y ⟨.inr rfl, ?_⟩
  subst hcut
  exact ⟨_, _, rfl, .agg rfl (.cl rfl (.cl rfl (.cl rfl (.cl rfl (.cl rfl .nil))))) (.cl rfl (.cl rfl .nil))⟩
 try simp at hg3
 obtain ⟨p, hp⟩ : ∃ p, l.done[i]? = some p := ⟨_, List.getElem?_eq_getElem (by omega)⟩
 have hpb := h2 p (List.mem_of_getElem? hp)
 refine x0x rfl v2v rfl rfl v3v rfl rfl ?_
 refine y5y rfl rfl ?_
 refine x3x rfl v3v rfl rfl ?_
 refine y5y rfl rfl ?_
 refine x1x rfl ?_
 refine y5y rfl rfl ?_
 refine z7z rfl rfl v3v rfl v8v rfl hp ?_
 refine y5y rfl rfl ?_
 refine x0x rfl v8v rfl rfl z1z rfl rfl ?_
 refine y5y rfl rfl ?_
 refine x0x rfl z1z rfl rfl y9y rfl rfl ?_
 refine y5y rfl rfl ?_
 refine z3z rfl y9y rfl ?_
 refine y5y rfl rfl ?_
 refine x1x rfl ?_
 refine y5y rfl rfl ?_
 refine y3y rfl rfl rfl ?_
 refine y8y rfl rfl ?_
 refine x8x rfl (fun hc4 => ?_) (fun hc4 => ?_)
 rotate_left
 ·try simp at hc4
  have hcut : b8h u l.done = i := by exact b7c k1 k2 (fun q hq => by rw [hp] at hq; cases hq; omega)
  have hfs := a3m (f := Pa.sends) (m := 2) k1 fun p hp => (h2 p hp).1
  have hfo := a3m (f := Pa.outs) (m := 2) k1 fun p hp => (h2 p hp).2
  refine v0v ?_
  refine hK1 _ _ ?_
  clear hK2 K2 hK1 K1
  refine x4x x7x (by rfl) ?_
  refine x0x rfl v2v rfl rfl v3v rfl rfl ?_
  refine x3x rfl v3v rfl rfl ?_
  refine x1x rfl ?_
  refine b5e rfl v3v rfl v8v rfl rfl rfl (by omega) (by (rw [List.length_map]; omega)) (by (rw [List.length_map]; omega)) ?_
  rw [b9s]
  refine x0x rfl v2v rfl rfl v3v rfl rfl ?_
  refine u5u rfl rfl v3v rfl rfl rfl rfl rfl (by simp only [List.set_cons_zero, List.set_cons_succ]; rfl) ?_
  refine a0y 7 rfl rfl (fun _ => rfl) ?_
  refine a0y 8 rfl rfl (fun _ => rfl) ?_
  refine p6p x7x r2r (by rfl) ?_
  refine y1y rfl v2v rfl rfl rfl ?_
  refine x1x rfl ?_
  refine v4v [6] [_] (a2z true _ (by omega)) rfl rfl rfl (by decide) rfl rfl (by repeat (first | exact InH.nil | refine InH.cons rfl ?_)) (by (simp only [pI, List.map_cons, List.map_nil, z8z, z9z, gl, nx, p4p, Nat.beq, Nat.add_eq, List.getD_cons_zero, List.getD_cons_succ, List.getD_nil, Bool.or_false, Bool.false_or, Bool.true_or, Bool.or_true, Nat.add_zero, Nat.zero_add]; rfl)) (by (simp only [pI, List.map_cons, List.map_nil, z8z, z9z, gl, nx, p4p, Nat.beq, Nat.add_eq, List.getD_cons_zero, List.getD_cons_succ, List.getD_nil, Bool.or_false, Bool.false_or, Bool.true_or, Bool.or_true, Nat.add_zero, Nat.zero_add]; rfl)) ?_
  refine x1x rfl ?_
  refine y7y rfl rfl rfl (a7d true _ (by omega)) ?_
  refine z2z rfl rfl v2v rfl rfl rfl rfl ?_
  refine x2x rfl ?_
  refine x2x rfl ?_
  refine ⟨by kernel_rfl, ?_⟩
  refine a0y 5 rfl rfl (fun _ => rfl) ?_
  refine y0y ⟨.inr rfl, ?_⟩
  subst hcut
  exact ⟨_, _, rfl, .agg rfl (.cl rfl (.cl rfl (.cl rfl (.cl rfl (.cl rfl .nil))))) (.cl rfl (.cl rfl .nil))⟩
 try simp at hc4
 have hlt : p.ev.time < u := by exact hc4
 have hfs := a3m (f := Pa.sends) (m := 2) (show i ≤ l.done.length by omega) fun p hp => (h2 p hp).1
 have hfo := a3m (f := Pa.outs) (m := 2) (show i ≤ l.done.length by omega) fun p hp => (h2 p hp).2
 refine x9x ?_
 refine hK2 _ _ ?_
 clear hK2 K2
 refine y6y ?_
 refine x4x x7x (by rfl) ?_
 refine x1x rfl ?_
 refine x0x rfl v2v rfl rfl v3v rfl rfl ?_
 refine x3x rfl v3v rfl rfl ?_
 refine x1x rfl ?_
 refine z7z rfl rfl v3v rfl v8v rfl hp ?_
 refine x0x rfl v8v rfl rfl u6u rfl rfl ?_
 refine z3z rfl u6u rfl ?_
 refine s1s (zs := ((l.done.take i).flatMap Pa.sends ++ p.sends).map w0w) rfl rfl u6u rfl z1z rfl rfl rfl (by exact r9r (fun _ => rfl) _) (a4n _ _ _) (by (simp only [List.length_map, List.length_append, List.length_cons, List.length_nil, List.length_take, List.length_drop, T76]; omega)) ?_
 refine x2x rfl ?_
 refine x4x x7x (by rfl) ?_
 refine x1x rfl ?_
 refine x0x rfl v2v rfl rfl v3v rfl rfl ?_
 refine x3x rfl v3v rfl rfl ?_
 refine x1x rfl ?_
 refine z7z rfl rfl v3v rfl v8v rfl hp ?_
 refine x0x rfl v8v rfl rfl u7u rfl rfl ?_
 refine z3z rfl u7u rfl ?_
 refine s1s (zs := ((l.done.take i).flatMap Pa.outs ++ p.outs).map r0r) rfl rfl u7u rfl u0u rfl rfl rfl (by exact r9r (fun _ => rfl) _) (a4n _ _ _) (by (simp only [List.length_map, List.length_append, List.length_cons, List.length_nil, List.length_take, List.length_drop, T104]; omega)) ?_
 refine x2x rfl ?_
 refine x4x x7x (by rfl) ?_
 refine x0x rfl v2v rfl rfl v3v rfl rfl ?_
 refine x3x rfl v3v rfl rfl ?_
 refine x1x rfl ?_
 refine z7z rfl rfl v3v rfl v8v rfl hp ?_
 refine x0x rfl v8v rfl rfl p5p rfl rfl ?_
 refine z3z (out := .agg (a0b p.after)) rfl p5p rfl ?_
 refine x0x rfl v2v rfl rfl p5p rfl rfl ?_
 refine a1g rfl rfl p5p rfl rfl rfl rfl (Nat.le_of_ble_eq_true rfl) rfl ?_
 refine y4y x7x (by rfl) ?_
 refine x1x rfl ?_
 refine u1u (b := 1) rfl rfl (by omega) ?_
 refine x2x rfl ?_
 exact ⟨i + 1, ⟨⟨by omega, fun j q hj hq => by by_cases e : j = i; (subst e; rw [hp] at hq; cases hq; exact hlt); exact k2 j q (by omega) hq⟩, by omega⟩, [0, 0, _, _, _, _], (Cov.cons (t := 7) rfl (Cov.cons (t := 8) rfl (Cov.cons (t := 9) rfl Cov.nil))), (Cov.cons (t := 1) rfl (Cov.cons (t := 2) rfl (Cov.cons (t := 4) rfl Cov.nil))), (HE.row rfl (by rw [a2v hp]) (HE.row rfl (by rw [a2v hp]) (HE.box rfl (by rw [b7e hp]; rfl) (HE.kill rfl (HE.kill rfl HE.nil))))), (HE.same (id := 1) rfl (HE.same (id := 6) rfl HE.nil)), rfl⟩
end
section
theorem b0p (c : Bool) (n : Nd) (e : Ev) (hok : okE e = true) (hk3 : n.known.length = 3) : Meth Tryz.prog 192 6 [0, 1, 2, 3, 4, 5] [.agg (w0w e), .ptr 5 0 0] [(0, (0, .row 62 3 ((n.lanes).map fun l => a0b l.base))), (1, (0, .row 63 1 ((n.lanes).map fun l => [a4j c l.done]))), (2, (0, .map (b0o c n.views))), (3, (0, .row 3 1 (n.known.map a2w))), (4, (0, .box 139 [pI n.id, pI n.inc, pI n.g, pI n.led, .ref 0 0, a0i c n.kept, a0z c n.outs, .pv (.bool n.up), .ref 1 0, pI n.version, .mp 2 0, .ref 3 0, pI n.round, pI n.low])), (5, (0, .box 109 [.ptr 4 0 0]))] (.pv (.bool (a9t n.known e))) [] := by
 refine u8u x7x (fn := Tryz.f192) (by kernel_rfl) (by kernel_rfl) rfl (O0 := [.pv (.bool (a9t n.known e))]) 6 1 (Nat.le_of_ble_eq_true rfl) (by rfl) (by repeat (first | exact BndH.nil | refine BndH.box rfl ?_ | refine BndH.row (u3u fun _ => rfl) ?_ | refine BndH.map (a0s _ _) ?_ )) (by repeat (exact BndH.nil )) (by rfl) fun γ => ?_
 show Ex Tryz.prog _ _ [(0, .agg (w0w e)), (1, .ptr 5 (γ 5) 0)] [(0, ((γ 0), .row 62 3 ((n.lanes).map fun l => a0b l.base))), (1, ((γ 1), .row 63 1 ((n.lanes).map fun l => [a4j c l.done]))), (2, ((γ 2), .map (b0o c n.views))), (3, ((γ 3), .row 3 1 (n.known.map a2w))), (4, ((γ 4), .box 139 [pI n.id, pI n.inc, pI n.g, pI n.led, .ref 0 (γ 0), a0i c n.kept, a0z c n.outs, .pv (.bool n.up), .ref 1 (γ 1), pI n.version, .mp 2 (γ 2), .ref 3 (γ 3), pI n.round, pI n.low])), (5, ((γ 5), .box 109 [.ptr 4 (γ 4) 0])), (6, (0, .dead))] _
 obtain ⟨k, v, hk, hv, hw⟩ := c6s hok hk3
 refine x4x x7x (by rfl) ?_
 refine v5v (id := 6) rfl rfl rfl ?_
 refine x2x rfl ?_
 refine p6p x7x r2r (by rfl) ?_
 refine x0x rfl z1z rfl rfl y9y rfl rfl ?_
 refine x3x rfl y9y rfl rfl ?_
 refine x3x rfl a4x rfl rfl ?_
 refine v9v rfl rfl ?_
 refine x0x rfl s0s rfl rfl p3p rfl rfl ?_
 refine x3x rfl p3p rfl rfl ?_
 refine x0x rfl z1z rfl rfl y9y rfl rfl ?_
 refine x3x rfl y9y rfl rfl ?_
 refine y7y rfl rfl rfl (b3e ..) ?_
 refine w7w (j := k) rfl (by rw [← hk]; rfl) p3p rfl y9y rfl rfl (a0e hv) ?_
 refine a8h rfl y9y rfl hv rfl ?_
 refine y3y rfl rfl rfl ?_
 refine x2x rfl ?_
 refine ⟨by kernel_rfl, ?_⟩
 refine y0y ?_
 exact ⟨.inr rfl, [γ 0, γ 1, γ 2, γ 3, γ 4, γ 5], rfl, congrArg (fun b : Bool => some [AV.pv (.bool b)]) (by exact hw.symm), (HE.same (id := 0) rfl (HE.same (id := 1) rfl (HE.same (id := 2) rfl (HE.same (id := 3) rfl (HE.same (id := 4) rfl (HE.same (id := 5) rfl HE.nil))))))⟩
theorem a4v (c : Bool) (n : Nd) (l : List Ev) (hok : ∀ e ∈ l, okE e = true) (hk3 : n.known.length = 3) (hl : l.length ≤ 10000000) : Meth Tryz.prog 188 6 [0, 1, 2, 3, 4, 5] [a0i true l, .fn (.func 192) [] [.ptr 5 0 0]] [(0, (0, .row 62 3 ((n.lanes).map fun l => a0b l.base))), (1, (0, .row 63 1 ((n.lanes).map fun l => [a4j c l.done]))), (2, (0, .map (b0o c n.views))), (3, (0, .row 3 1 (n.known.map a2w))), (4, (0, .box 139 [pI n.id, pI n.inc, pI n.g, pI n.led, .ref 0 0, a0i c n.kept, a0z c n.outs, .pv (.bool n.up), .ref 1 0, pI n.version, .mp 2 0, .ref 3 0, pI n.round, pI n.low])), (5, (0, .box 109 [.ptr 4 0 0]))] (a0i true (l.filter (a9t n.known))) [] := by
 refine u8u x7x (fn := Tryz.f188) (by kernel_rfl) (by kernel_rfl) rfl (O0 := [a0i true (l.filter (a9t n.known))]) 6 4 (Nat.le_of_ble_eq_true rfl) (by rfl) (by repeat (first | exact BndH.nil | refine BndH.box rfl ?_ | refine BndH.row (u3u fun _ => rfl) ?_ | refine BndH.map (a0s _ _) ?_ )) (by repeat (exact BndH.nil )) (by rfl) fun γ => ?_
 show Ex Tryz.prog _ _ [(0, a0i true l), (1, .fn (.func 192) [] [.ptr 5 (γ 5) 0])] [(0, ((γ 0), .row 62 3 ((n.lanes).map fun l => a0b l.base))), (1, ((γ 1), .row 63 1 ((n.lanes).map fun l => [a4j c l.done]))), (2, ((γ 2), .map (b0o c n.views))), (3, ((γ 3), .row 3 1 (n.known.map a2w))), (4, ((γ 4), .box 139 [pI n.id, pI n.inc, pI n.g, pI n.led, .ref 0 (γ 0), a0i c n.kept, a0z c n.outs, .pv (.bool n.up), .ref 1 (γ 1), pI n.version, .mp 2 (γ 2), .ref 3 (γ 3), pI n.round, pI n.low])), (5, ((γ 5), .box 109 [.ptr 4 (γ 4) 0])), (9, (0, .dead)), (8, (0, .dead)), (7, (0, .dead)), (6, (0, .dead))] _
 refine x4x x7x (by rfl) ?_
 refine x2x rfl ?_
 refine x4x x7x (by rfl) ?_
 refine x2x rfl ?_
 refine x5x fun K1 hK1 => ?_
 refine x4x x7x (by rfl) ?_
 refine x1x rfl ?_
 refine u2u rfl u6u rfl ?_
 refine x1x rfl ?_
 refine y6y ?_
 refine a2d 5 9 76 7 rfl rfl ?_
 refine u4u (ι := Nat) (fun i γ1 => [(5, .ref 9 (γ1 9)), (10, .pv (.int .i64 (i : Int)))]) (fun i γ1 => [(9, ((γ1 9), .row 76 7 (((l.take i).filter (a9t n.known)).map w0w))), (6, ((γ1 6), .dead)), (7, ((γ1 7), .dead)), (8, ((γ1 8), .dead))]) (fun i => i ≤ l.length) (fun i => l.length - i) (Cov.cons (t := 1) rfl (Cov.cons (t := 8) rfl (Cov.cons (t := 9) rfl Cov.nil))) (HE.same (id := 0) rfl (HE.same (id := 1) rfl (HE.same (id := 2) rfl (HE.same (id := 3) rfl (HE.same (id := 4) rfl (HE.same (id := 5) rfl HE.nil)))))) 0 (by omega) [0, 0, 0, 0, 0, 0, _, _, _, _] (Cov.cons (t := 5) rfl (Cov.cons (t := 10) rfl Cov.nil)) (HE.row rfl (by rw [List.take_zero]; rfl) (HE.kill rfl (HE.kill rfl (HE.kill rfl HE.nil)))) rfl fun i γ1 hi => ?_
 try dsimp only [List.cons_append, List.nil_append]
 refine x4x x7x (by rfl) ?_
 refine y3y rfl rfl rfl ?_
 refine x5x fun K2 hK2 => ?_
 refine x8x rfl (fun hc3 => ?_) (fun hc3 => ?_)
 rotate_left
 ·try simp at hc3
  obtain rfl : i = l.length := by omega
  rw [List.take_length]
  refine v0v ?_
  refine hK1 _ _ ?_
  clear hK2 K2 hK1 K1
  refine a0y 5 rfl rfl (fun _ => rfl) ?_
  refine x4x x7x (by rfl) ?_
  refine x1x rfl ?_
  refine x2x rfl ?_
  refine y0y ?_
  exact ⟨.inr rfl, [γ 0, γ 1, γ 2, γ 3, γ 4, γ 5], rfl, rfl, (HE.same (id := 0) rfl (HE.same (id := 1) rfl (HE.same (id := 2) rfl (HE.same (id := 3) rfl (HE.same (id := 4) rfl (HE.same (id := 5) rfl HE.nil))))))⟩
 try simp at hc3
 obtain ⟨p, hp⟩ : ∃ p, l[i]? = some p := ⟨_, List.getElem?_eq_getElem (by omega)⟩
 have hfl : ((l.take i).filter (a9t n.known)).length ≤ 10000000 := Nat.le_trans (List.length_filter_le _ _) (by rw [List.length_take]; omega)
 refine x9x ?_
 refine hK2 _ _ ?_
 clear hK2 K2
 refine x5x fun K4 hK4 => ?_
 refine y6y ?_
 refine x4x x7x (by rfl) ?_
 refine z7z rfl rfl u6u rfl z1z rfl (by assumption) ?_
 refine z6z rfl z1z rfl rfl ?_
 refine u9u (id := 6) z1z a7o rfl ?_
 refine z2z rfl rfl z1z rfl rfl rfl rfl ?_
 refine x4x x7x (by rfl) ?_
 refine x1x rfl ?_
 refine y1y rfl z1z rfl rfl rfl ?_
 refine v4v [0, 1, 2, 3, 4, 5] [_, _, _, _, _, _] (b0p c n p (hok p (List.mem_of_getElem? hp)) hk3) rfl rfl rfl (by decide) rfl rfl (by repeat (first | exact InH.nil | refine InH.cons rfl ?_)) (by (simp only [pI, List.map_cons, List.map_nil, z8z, z9z, gl, nx, p4p, Nat.beq, Nat.add_eq, List.getD_cons_zero, List.getD_cons_succ, List.getD_nil, Bool.or_false, Bool.false_or, Bool.true_or, Bool.or_true, Nat.add_zero, Nat.zero_add]; rfl)) (by (simp only [pI, List.map_cons, List.map_nil, z8z, z9z, gl, nx, p4p, Nat.beq, Nat.add_eq, List.getD_cons_zero, List.getD_cons_succ, List.getD_nil, Bool.or_false, Bool.false_or, Bool.true_or, Bool.or_true, Nat.add_zero, Nat.zero_add]; rfl)) ?_
 refine x8x rfl (fun hc5 => ?_) (fun hc5 => ?_)
 rotate_left
 ·try simp at hc5
  have hw : ¬ a9t n.known p = true := by rw [hc5]; decide
  refine x9x ?_
  refine hK4 _ _ ?_
  clear hK4 K4
  refine y4y x7x (by rfl) ?_
  refine y3y rfl rfl rfl ?_
  refine x1x rfl ?_
  exact ⟨i + 1, ⟨by omega, by omega⟩, [0, 0, 0, 0, 0, 0, _, _, _, _], (Cov.cons (t := 5) rfl (Cov.cons' (t := 10) rfl (by rw [v6v (by omega) (by omega)]; rfl) Cov.nil)), (Cov.cons (t := 1) rfl (Cov.cons (t := 8) rfl (Cov.cons (t := 9) rfl Cov.nil))), (HE.row rfl (by rw [a1l hp]; rw [if_neg hw, List.append_nil]) (HE.kill rfl (HE.kill rfl (HE.kill rfl HE.nil)))), (HE.same (id := 0) rfl (HE.same (id := 1) rfl (HE.same (id := 2) rfl (HE.same (id := 3) rfl (HE.same (id := 4) rfl (HE.same (id := 5) rfl HE.nil)))))), rfl⟩
 try simp at hc5
 have hw : a9t n.known p = true := hc5
 refine y4y x7x (by rfl) ?_
 refine x1x rfl ?_
 refine y1y rfl z1z rfl rfl rfl ?_
 refine r6r (id := 7) u6u rfl z1z rfl rfl rfl rfl rfl rfl ?_
 refine r8r (zs := ((l.take i).filter (a9t n.known) ++ [p]).map w0w) rfl rfl u6u rfl z1z rfl rfl rfl rfl (by rfl) (a0j _ _ _) (by (simp only [List.length_map, List.length_append, List.length_cons, List.length_nil, List.length_take, List.length_range, T76] at *; omega)) ?_
 refine x2x rfl ?_
 refine hK4 _ _ ?_
 clear hK4 K4
 refine y4y x7x (by rfl) ?_
 refine y3y rfl rfl rfl ?_
 refine x1x rfl ?_
 exact ⟨i + 1, ⟨by omega, by omega⟩, [0, 0, 0, 0, 0, 0, _, _, _, _], (Cov.cons (t := 5) rfl (Cov.cons' (t := 10) rfl (by rw [v6v (by omega) (by omega)]; rfl) Cov.nil)), (Cov.cons (t := 1) rfl (Cov.cons (t := 8) rfl (Cov.cons (t := 9) rfl Cov.nil))), (HE.row rfl (by rw [a1l hp]; rw [if_pos hw]) (HE.kill rfl (HE.kill rfl (HE.kill rfl HE.nil)))), (HE.same (id := 0) rfl (HE.same (id := 1) rfl (HE.same (id := 2) rfl (HE.same (id := 3) rfl (HE.same (id := 4) rfl (HE.same (id := 5) rfl HE.nil)))))), rfl⟩
set_option maxHeartbeats 1000000 in
theorem b3m (c : Bool) (n : Nd) (g : Int) (fS : a1v n) : Meth Tryz.prog 117 5 [0, 1, 2, 3, 4] [.ptr 4 0 0, .pv (.int .i64 g)] [(0, (0, .row 62 3 ((n.lanes).map fun l => a0b l.base))), (1, (0, .row 63 1 ((n.lanes).map fun l => [a4j c l.done]))), (2, (0, .map (b0o c n.views))), (3, (0, .row 3 1 (n.known.map a2w))), (4, (0, .box 139 [pI n.id, pI n.inc, pI n.g, pI n.led, .ref 0 0, a0i c n.kept, a0z c n.outs, .pv (.bool n.up), .ref 1 0, pI n.version, .mp 2 0, .ref 3 0, pI n.round, pI n.low]))] (.tup []) [(0, (0, .row 62 3 (((r7r n g).lanes).map fun l => a0b l.base))), (1, (0, .row 63 1 (((r7r n g).lanes).map fun l => [a4j c l.done]))), (2, (0, .map (b0o c (r7r n g).views))), (3, (0, .row 3 1 ((r7r n g).known.map a2w))), (4, (0, .box 139 [pI (r7r n g).id, pI (r7r n g).inc, pI (r7r n g).g, pI (r7r n g).led, .ref 0 0, a0i true (r7r n g).kept, a0z true (r7r n g).outs, .pv (.bool (r7r n g).up), .ref 1 0, pI (r7r n g).version, .mp 2 0, .ref 3 0, pI (r7r n g).round, pI (r7r n g).low]))] := by
 refine u8u x7x (fn := Tryz.f117) (by kernel_rfl) (by kernel_rfl) rfl (O0 := []) 5 7 (Nat.le_of_ble_eq_true rfl) (by rfl) (by repeat (first | exact BndH.nil | refine BndH.box rfl ?_ | refine BndH.row (u3u fun _ => rfl) ?_ | refine BndH.map (a0s _ _) ?_ )) (by repeat (first | exact BndH.nil | refine BndH.box rfl ?_ | refine BndH.row (u3u fun _ => rfl) ?_ | refine BndH.map (a0s _ _) ?_ )) (by rfl) fun γ => ?_
 show Ex Tryz.prog _ _ [(0, .ptr 4 (γ 4) 0), (1, .pv (.int .i64 g))] [(0, ((γ 0), .row 62 3 ((n.lanes).map fun l => a0b l.base))), (1, ((γ 1), .row 63 1 ((n.lanes).map fun l => [a4j c l.done]))), (2, ((γ 2), .map (b0o c n.views))), (3, ((γ 3), .row 3 1 (n.known.map a2w))), (4, ((γ 4), .box 139 [pI n.id, pI n.inc, pI n.g, pI n.led, .ref 0 (γ 0), a0i c n.kept, a0z c n.outs, .pv (.bool n.up), .ref 1 (γ 1), pI n.version, .mp 2 (γ 2), .ref 3 (γ 3), pI n.round, pI n.low])), (11, (0, .dead)), (10, (0, .dead)), (9, (0, .dead)), (8, (0, .dead)), (7, (0, .dead)), (6, (0, .dead)), (5, (0, .dead))] _
 have fB := s6s fS
 have fL := b7j fS
 obtain ⟨k, hk, hk3, hkn⟩ := d4j fS
 have hkl := fS.2.2.2.2.2.2.1
 obtain ⟨kn, hkv⟩ : ∃ kn, n.known[k]? = some kn := ⟨_, List.getElem?_eq_getElem (by omega)⟩
 have hKk : n.known.set n.id.toNat g = n.known.set k g := by rw [hkn]
 refine x4x x7x (by rfl) ?_
 refine c4v (id := 5) rfl rfl rfl rfl ?_
 refine p6p x7x r2r (by rfl) ?_
 refine x3x rfl a4x rfl rfl ?_
 refine v9v rfl rfl ?_
 refine x0x rfl s0s rfl rfl r1r rfl rfl ?_
 refine x0x rfl r1r rfl rfl u6u rfl rfl ?_
 refine x3x rfl u6u rfl rfl ?_
 refine v4v [9] [_] (p7p c n.kept (by omega)) rfl rfl rfl (by decide) rfl rfl (by repeat (first | exact InH.nil | refine InH.cons rfl ?_)) (by (simp only [pI, List.map_cons, List.map_nil, z8z, z9z, gl, nx, p4p, Nat.beq, Nat.add_eq, List.getD_cons_zero, List.getD_cons_succ, List.getD_nil, Bool.or_false, Bool.false_or, Bool.true_or, Bool.or_true, Nat.add_zero, Nat.zero_add]; rfl)) (by (simp only [pI, List.map_cons, List.map_nil, z8z, z9z, gl, nx, p4p, Nat.beq, Nat.add_eq, List.getD_cons_zero, List.getD_cons_succ, List.getD_nil, Bool.or_false, Bool.false_or, Bool.true_or, Bool.or_true, Nat.add_zero, Nat.zero_add]; rfl)) ?_
 refine x3x rfl a4x rfl rfl ?_
 refine v9v rfl rfl ?_
 refine x0x rfl s0s rfl rfl r1r rfl rfl ?_
 refine x0x rfl r1r rfl rfl u7u rfl rfl ?_
 refine x3x rfl u7u rfl rfl ?_
 refine v4v [10] [_] (a0c c n.outs (by omega)) rfl rfl rfl (by decide) rfl rfl (by repeat (first | exact InH.nil | refine InH.cons rfl ?_)) (by (simp only [pI, List.map_cons, List.map_nil, z8z, z9z, gl, nx, p4p, Nat.beq, Nat.add_eq, List.getD_cons_zero, List.getD_cons_succ, List.getD_nil, Bool.or_false, Bool.false_or, Bool.true_or, Bool.or_true, Nat.add_zero, Nat.zero_add]; rfl)) (by (simp only [pI, List.map_cons, List.map_nil, z8z, z9z, gl, nx, p4p, Nat.beq, Nat.add_eq, List.getD_cons_zero, List.getD_cons_succ, List.getD_nil, Bool.or_false, Bool.false_or, Bool.true_or, Bool.or_true, Nat.add_zero, Nat.zero_add]; rfl)) ?_
 refine x2x rfl ?_
 refine x2x rfl ?_
 refine ⟨by kernel_rfl, ?_⟩
 refine x5x fun K1 hK1 => ?_
 refine x4x x7x (by rfl) ?_
 refine x3x rfl a4x rfl rfl ?_
 refine v9v rfl rfl ?_
 refine x0x rfl s0s rfl rfl r1r rfl rfl ?_
 refine x0x rfl r1r rfl rfl a2k rfl rfl ?_
 refine x3x rfl a2k rfl rfl ?_
 refine a0v rfl a2k rfl rfl (by exact List.length_map _) ?_
 refine x1x rfl ?_
 refine y6y ?_
 refine u4u (ι := Nat) (fun i γ1 => [(4, .ref 9 (γ1 9)), (5, .ref 10 (γ1 10)), (28, .pv (.int .i64 (i : Int)))]) (fun i γ1 => [(9, ((γ1 9), .row 76 7 ((a1q n g i).map w0w))), (10, ((γ1 10), .row 104 5 ((a6q n g i).map r0r))), (0, ((γ 0), .row 62 3 ((a9f g n.lanes i).map fun l => a0b l.base))), (1, ((γ 1), .row 63 1 ((a9f g n.lanes i).map fun l => [a4j c l.done]))), (6, ((γ1 6), .dead)), (7, ((γ1 7), .dead)), (8, ((γ1 8), .dead))]) (fun i => i ≤ n.lanes.length) (fun i => n.lanes.length - i) (Cov.cons (t := 1) rfl (Cov.cons (t := 2) rfl (Cov.cons (t := 27) rfl Cov.nil))) (HE.same (id := 2) rfl (HE.same (id := 3) rfl (HE.same (id := 4) rfl (HE.same (id := 5) rfl (HE.same (id := 11) rfl HE.nil))))) 0 (by omega) [0, 0, 0, 0, 0, 0, _, _, _, _, _] (Cov.cons (t := 4) rfl (Cov.cons (t := 5) rfl (Cov.cons (t := 28) rfl Cov.nil))) (HE.row rfl (by rw [b7h]) (HE.row rfl (by rw [b7i]) (HE.row rfl (by rw [b4c]) (HE.row rfl (by rw [b4c]) (HE.kill rfl (HE.kill rfl (HE.kill rfl HE.nil))))))) rfl fun i γ1 hi => ?_
 try dsimp only [List.cons_append, List.nil_append]
 refine x4x x7x (by rfl) ?_
 refine y3y rfl rfl rfl ?_
 refine x5x fun K2 hK2 => ?_
 refine x8x rfl (fun hc3 => ?_) (fun hc3 => ?_)
 rotate_left
 ·try simp at hc3
  obtain rfl : i = n.lanes.length := by omega
  have hkt := b2x fS g n.lanes.length
  have hot := b2y fS g n.lanes.length
  refine v0v ?_
  refine hK1 _ _ ?_
  clear hK2 K2 hK1 K1
  refine x4x x7x (by rfl) ?_
  refine x3x rfl a4x rfl rfl ?_
  refine x1x rfl ?_
  refine v9v rfl rfl ?_
  refine x0x rfl s0s rfl rfl r1r rfl rfl ?_
  refine x0x rfl r1r rfl rfl y9y rfl rfl ?_
  refine u5u rfl rfl y9y rfl rfl rfl rfl rfl (by simp only [List.set_cons_zero, List.set_cons_succ]; rfl) ?_
  refine p6p x7x r2r (by rfl) ?_
  refine x3x rfl a4x rfl rfl ?_
  refine v9v rfl rfl ?_
  refine x0x rfl s0s rfl rfl p3p rfl rfl ?_
  refine x3x rfl p3p rfl rfl ?_
  refine x3x rfl a4x rfl rfl ?_
  refine v9v rfl rfl ?_
  refine x0x rfl s0s rfl rfl r1r rfl rfl ?_
  refine x0x rfl r1r rfl rfl y9y rfl rfl ?_
  refine x3x rfl y9y rfl rfl ?_
  refine x1x rfl ?_
  refine w7w (j := k) rfl (by rw [← hk]; rfl) p3p rfl y9y rfl rfl (a0e hkv) ?_
  refine b3t (el' := g) rfl rfl y9y rfl rfl rfl hkv rfl (by omega) (.val rfl rfl .nil) rfl rfl ?_
  refine ⟨by kernel_rfl, ?_⟩
  refine a0y 4 rfl rfl (fun _ => rfl) ?_
  refine p6p x7x r2r (by rfl) ?_
  refine x3x rfl a4x rfl rfl ?_
  refine x1x rfl ?_
  refine b6q rfl rfl ?_
  refine v4v [0, 1, 2, 3, 4, 5] [_, _, _, _, _, _] (a4v c ({ n with g := g, lanes := a9f g n.lanes n.lanes.length, known := n.known.set k g } : Nd) (a1q n g n.lanes.length) (fun e he => c3v fS he) (by show (n.known.set k g).length = 3; rw [List.length_set]; exact hkl) (by omega)) rfl rfl rfl (by decide) rfl rfl (by repeat (first | exact InH.nil | refine InH.cons rfl ?_)) (by (simp only [pI, List.map_cons, List.map_nil, z8z, z9z, gl, nx, p4p, Nat.beq, Nat.add_eq, List.getD_cons_zero, List.getD_cons_succ, List.getD_nil, Bool.or_false, Bool.false_or, Bool.true_or, Bool.or_true, Nat.add_zero, Nat.zero_add]; rfl)) (by (simp only [pI, List.map_cons, List.map_nil, z8z, z9z, gl, nx, p4p, Nat.beq, Nat.add_eq, List.getD_cons_zero, List.getD_cons_succ, List.getD_nil, Bool.or_false, Bool.false_or, Bool.true_or, Bool.or_true, Nat.add_zero, Nat.zero_add]; rfl)) ?_
  refine v4v [11] [_] (a2z true _ (Nat.le_trans (List.length_filter_le _ _) (by omega))) rfl rfl rfl (by decide) rfl rfl (by repeat (first | exact InH.nil | refine InH.cons rfl ?_)) (by (simp only [pI, List.map_cons, List.map_nil, z8z, z9z, gl, nx, p4p, Nat.beq, Nat.add_eq, List.getD_cons_zero, List.getD_cons_succ, List.getD_nil, Bool.or_false, Bool.false_or, Bool.true_or, Bool.or_true, Nat.add_zero, Nat.zero_add]; rfl)) (by (simp only [pI, List.map_cons, List.map_nil, z8z, z9z, gl, nx, p4p, Nat.beq, Nat.add_eq, List.getD_cons_zero, List.getD_cons_succ, List.getD_nil, Bool.or_false, Bool.false_or, Bool.true_or, Bool.or_true, Nat.add_zero, Nat.zero_add]; rfl)) ?_
  refine v9v rfl rfl ?_
  refine x0x rfl s0s rfl rfl r1r rfl rfl ?_
  refine x0x rfl r1r rfl rfl u6u rfl rfl ?_
  refine u5u rfl rfl u6u rfl rfl rfl rfl rfl (by simp only [List.set_cons_zero, List.set_cons_succ]; rfl) ?_
  refine ⟨by kernel_rfl, ?_⟩
  refine a9o 11 (xs' := (r7r n g).kept.map w0w) rfl (by simp only [r7r, hKk]) ?_
  refine b6n (b := a0i true (r7r n g).kept) 4 5 rfl rfl rfl (.ref rfl (Le.ow_map _ (fun _ => rfl) (fun _ => rfl)) .nil) rfl rfl rfl rfl ?_
  refine a0y 5 rfl rfl (fun _ => rfl) ?_
  refine s3s x7x r2r (by rfl) ?_
  refine x3x rfl a4x rfl rfl ?_
  refine x1x rfl ?_
  refine y7y rfl rfl rfl (a7d true _ (by omega)) ?_
  refine v9v rfl rfl ?_
  refine x0x rfl s0s rfl rfl r1r rfl rfl ?_
  refine x0x rfl r1r rfl rfl u7u rfl rfl ?_
  refine u5u rfl rfl u7u rfl rfl rfl rfl rfl (by simp only [List.set_cons_zero, List.set_cons_succ]; rfl) ?_
  refine ⟨by kernel_rfl, ?_⟩
  exact ⟨.inl rfl, [γ 0, γ 1, γ 2, γ 3, γ 4], rfl, rfl, HE.row rfl (by rw [b7f]; rfl) (HE.row rfl (by rw [b7f]; rfl) (HE.same (id := 2) rfl (HE.row rfl (by rw [← hKk]; rfl) (HE.box rfl rfl HE.nil))))⟩
 try simp at hc3
 obtain ⟨l, hp⟩ : ∃ l, n.lanes[i]? = some l := ⟨_, List.getElem?_eq_getElem (by omega)⟩
 have hkt := b2x fS g (i + 1)
 rw [a8q hp, List.length_append] at hkt
 have hot := b2y fS g (i + 1)
 rw [a8r hp, List.length_append] at hot
 have hlt2 : i < (a9f g n.lanes i).length := by rw [c3u _ _ (by omega)]; omega
 refine x9x ?_
 refine hK2 _ _ ?_
 clear hK2 K2
 refine x5x fun K4 hK4 => ?_
 refine y6y ?_
 refine x4x x7x (by rfl) ?_
 refine x1x rfl ?_
 refine x2x rfl ?_
 refine x4x x7x (by rfl) ?_
 refine x3x rfl a4x rfl rfl ?_
 refine x1x rfl ?_
 refine v4v [0, 1, 2, 3, 4] [_, _, _, _, _] (a3p c ({ n with lanes := a9f g n.lanes i } : Nd) _ (a0s _ _) i l (b5k hp) (fS.2.2.2.2.2.2.2.1 i l hp).1) rfl rfl rfl (by decide) rfl rfl (by repeat (first | exact InH.nil | refine InH.cons rfl ?_)) (by (simp only [pI, List.map_cons, List.map_nil, z8z, z9z, gl, nx, p4p, Nat.beq, Nat.add_eq, List.getD_cons_zero, List.getD_cons_succ, List.getD_nil, Bool.or_false, Bool.false_or, Bool.true_or, Bool.or_true, Nat.add_zero, Nat.zero_add]; rfl)) (by (simp only [pI, List.map_cons, List.map_nil, z8z, z9z, gl, nx, p4p, Nat.beq, Nat.add_eq, List.getD_cons_zero, List.getD_cons_succ, List.getD_nil, Bool.or_false, Bool.false_or, Bool.true_or, Bool.or_true, Nat.add_zero, Nat.zero_add]; rfl)) ?_
 refine x1x rfl ?_
 refine y7y rfl rfl rfl (b4f c l g (fL l (List.mem_of_getElem? hp))) ?_
 refine x1x rfl ?_
 refine w6w rfl rfl ?_
 refine w6w rfl rfl ?_
 refine w6w rfl rfl ?_
 refine u9u (id := 6) v2v a6u rfl ?_
 refine z2z rfl rfl v2v rfl rfl rfl rfl ?_
 refine x2x rfl ?_
 refine x2x rfl ?_
 refine p6p x7x r2r (by rfl) ?_
 refine x3x rfl a4x rfl rfl ?_
 refine v9v rfl rfl ?_
 refine x0x rfl s0s rfl rfl r1r rfl rfl ?_
 refine x0x rfl r1r rfl rfl a2k rfl rfl ?_
 refine x3x rfl a2k rfl rfl ?_
 refine x1x rfl ?_
 refine x3x rfl a4x rfl rfl ?_
 refine v9v rfl rfl ?_
 refine x0x rfl s0s rfl rfl a2q rfl rfl ?_
 refine x3x rfl a2q rfl rfl ?_
 refine x1x rfl ?_
 refine x0x rfl v2v rfl rfl p5p rfl rfl ?_
 refine x3x (out := .agg (a0b (a9e g l).base)) rfl p5p rfl rfl ?_
 refine x0x rfl v2v rfl rfl v3v rfl rfl ?_
 refine x3x rfl v3v rfl rfl ?_
 refine w7w (j := i) rfl rfl a2k rfl p5p rfl rfl hlt2 ?_
 refine s8s (el' := a9e g l) rfl rfl p5p rfl rfl rfl (b5k hp) rfl (a0t _) rfl rfl ?_
 refine w7w (j := i) rfl rfl a2q rfl v3v rfl rfl hlt2 ?_
 refine b3t (el' := a9e g l) rfl rfl v3v rfl rfl rfl (b5k hp) rfl (by omega) (.val rfl rfl .nil) rfl rfl ?_
 refine ⟨by kernel_rfl, ?_⟩
 refine x4x x7x (by rfl) ?_
 refine x1x rfl ?_
 refine x1x rfl ?_
 refine s1s (zs := (a1q n g i ++ b2w g l).map w0w) rfl rfl u6u rfl z1z rfl rfl rfl (by exact r9r (fun _ => rfl) _) (a4n _ _ _) (by (simp only [List.length_map, List.length_append, List.length_cons, List.length_nil, List.length_take, List.length_range, T76] at *; omega)) ?_
 refine x2x rfl ?_
 refine y4y x7x (by rfl) ?_
 refine x1x rfl ?_
 refine x1x rfl ?_
 refine s1s (zs := (a6q n g i ++ b4r g l).map r0r) rfl rfl u7u rfl u0u rfl rfl rfl (by exact r9r (fun _ => rfl) _) (a4n _ _ _) (by (simp only [List.length_map, List.length_append, List.length_cons, List.length_nil, List.length_take, List.length_range, T104] at *; omega)) ?_
 refine x2x rfl ?_
 refine hK4 _ _ ?_
 clear hK4 K4
 refine y4y x7x (by rfl) ?_
 refine y3y rfl rfl rfl ?_
 refine x1x rfl ?_
 exact ⟨i + 1, ⟨by omega, by omega⟩, [0, 0, 0, 0, 0, 0, _, _, _, _, _], (Cov.cons (t := 4) rfl (Cov.cons (t := 5) rfl (Cov.cons' (t := 28) rfl (by rw [v6v (by omega) (by omega)]; rfl) Cov.nil))), (Cov.cons (t := 1) rfl (Cov.cons (t := 2) rfl (Cov.cons (t := 27) rfl Cov.nil))), (HE.row rfl (by rw [a8q hp]) (HE.row rfl (by rw [a8r hp]) (HE.row rfl (by rw [b7g hp]) (HE.row rfl (by rw [b7g hp]) (HE.kill rfl (HE.kill rfl (HE.kill rfl HE.nil))))))), (HE.same (id := 2) rfl (HE.same (id := 3) rfl (HE.same (id := 4) rfl (HE.same (id := 5) rfl (HE.same (id := 11) rfl HE.nil))))), rfl⟩
end
section
set_option maxHeartbeats 1000000 in
theorem b8t (c : Bool) (n0 n : Nd) (h0 : cNd n0 ≤ 1048576) (hlen : n.lanes.length ≤ 1048576) (hN : ∀ (i : Nat) l, n.lanes[i]? = some l → (a1c n.id 4)[i]? = some l.proc) (hv3 : n.views.length = 3) : Meth Tryz.prog 118 10 [0, 1, 2, 3, 4] [.agg (a1d c n0), .ptr 4 0 0] [(0, (0, .row 62 3 ((n.lanes).map fun l => a0b l.base))), (1, (0, .row 63 1 ((n.lanes).map fun l => [a4j c l.done]))), (2, (0, .map (b0o c n.views))), (3, (0, .row 3 1 (n.known.map a2w))), (4, (0, .box 139 [pI n.id, pI n.inc, pI n.g, pI n.led, .ref 0 0, a0i c n.kept, a0z c n.outs, .pv (.bool n.up), .ref 1 0, pI n.version, .mp 2 0, .ref 3 0, pI n.round, pI n.low])), (5, (0, .dead)), (6, (0, .dead)), (7, (0, .dead)), (8, (0, .dead)), (9, (0, .dead))] (.tup [.agg [pI (s7s n0 n).1.id, .pv (.bool (s7s n0 n).1.up), pI (s7s n0 n).1.inc, pI (s7s n0 n).1.g, .ref 5 0, .ref 6 0, .ref 7 0, pI (s7s n0 n).1.led, pI (s7s n0 n).1.version, .ref 8 0, .ref 9 0, pI (s7s n0 n).1.round, pI (s7s n0 n).1.low], .pv (.bool ((s7s n0 n).2))]) [(5, (0, .row 65 5 ((s7s n0 n).1.lanes.map a1i))), (6, (0, .row 76 7 ((s7s n0 n).1.kept.map w0w))), (7, (0, .row 104 5 ((s7s n0 n).1.outs.map r0r))), (8, (0, .row 141 3 ((s7s n0 n).1.views.map a1j))), (9, (0, .row 3 1 ((s7s n0 n).1.known.map a2w)))] := by
 refine u8u x7x (fn := Tryz.f118) (by kernel_rfl) (by kernel_rfl) rfl (O0 := [.agg [pI (s7s n0 n).1.id, .pv (.bool (s7s n0 n).1.up), pI (s7s n0 n).1.inc, pI (s7s n0 n).1.g, .ref 5 0, .ref 6 0, .ref 7 0, pI (s7s n0 n).1.led, pI (s7s n0 n).1.version, .ref 8 0, .ref 9 0, pI (s7s n0 n).1.round, pI (s7s n0 n).1.low], .pv (.bool ((s7s n0 n).2))]) 10 5 (Nat.le_of_ble_eq_true rfl) (by rfl) (by repeat (first | exact BndH.nil | refine BndH.dead ?_ | refine BndH.box rfl ?_ | refine BndH.row (u3u fun _ => rfl) ?_ | refine BndH.map (a0s _ _) ?_ )) (by repeat (first | exact BndH.nil | refine BndH.row (u3u fun _ => rfl) ?_ )) (by rfl) fun γ => ?_
 show Ex Tryz.prog _ _ [(0, .agg (a1d c n0)), (1, .ptr 4 (γ 4) 0)] [(0, ((γ 0), .row 62 3 ((n.lanes).map fun l => a0b l.base))), (1, ((γ 1), .row 63 1 ((n.lanes).map fun l => [a4j c l.done]))), (2, ((γ 2), .map (b0o c n.views))), (3, ((γ 3), .row 3 1 (n.known.map a2w))), (4, ((γ 4), .box 139 [pI n.id, pI n.inc, pI n.g, pI n.led, .ref 0 (γ 0), a0i c n.kept, a0z c n.outs, .pv (.bool n.up), .ref 1 (γ 1), pI n.version, .mp 2 (γ 2), .ref 3 (γ 3), pI n.round, pI n.low])), (5, ((γ 5), .dead)), (6, ((γ 6), .dead)), (7, ((γ 7), .dead)), (8, ((γ 8), .dead)), (9, ((γ 9), .dead)), (14, (0, .dead)), (13, (0, .dead)), (12, (0, .dead)), (11, (0, .dead)), (10, (0, .dead))] _
 refine x4x x7x (by rfl) ?_
 refine v5v (id := 10) rfl rfl rfl ?_
 refine u9u (id := 11) z5z a6g rfl ?_
 refine x2x rfl ?_
 refine x4x x7x (by rfl) ?_
 refine x1x rfl ?_
 refine v4v [0, 1, 2, 3, 4, 13, 14] [_, _, _, _, _, _, _] (b3l c n hlen hN hv3) rfl rfl rfl (by decide) rfl rfl (by repeat (first | exact InH.nil | refine InH.cons rfl ?_)) (by (simp only [pI, List.map_cons, List.map_nil, z8z, z9z, gl, nx, p4p, Nat.beq, Nat.add_eq, List.getD_cons_zero, List.getD_cons_succ, List.getD_nil, Bool.or_false, Bool.false_or, Bool.true_or, Bool.or_true, Nat.add_zero, Nat.zero_add]; rfl)) (by (simp only [pI, List.map_cons, List.map_nil, z8z, z9z, gl, nx, p4p, Nat.beq, Nat.add_eq, List.getD_cons_zero, List.getD_cons_succ, List.getD_nil, Bool.or_false, Bool.false_or, Bool.true_or, Bool.or_true, Nat.add_zero, Nat.zero_add]; rfl)) ?_
 refine u9u (id := 12) z5z a6g rfl ?_
 refine z2z rfl rfl z5z rfl rfl rfl rfl ?_
 refine x5x fun K1 hK1 => ?_
 refine x4x x7x (by rfl) ?_
 refine y1y rfl z5z rfl rfl rfl ?_
 refine a8g rfl rfl rfl (by exact d1o rfl rfl rfl .nil) (b3k false n) (by exact .pv _) ?_
 refine w2w rfl ?_
 refine x8x rfl (fun hc2 => ?_) (fun hc2 => ?_)
 ·try simp at hc2
  have fX : ¬ a0r n := a4z (by simpa using hc2)
  refine x4x x7x (by rfl) ?_
  refine y1y rfl z5z rfl rfl rfl ?_
  refine v4v [5, 6, 7, 8, 9] [_, _, _, _, _] (s2s c n0 h0) rfl rfl rfl (by decide) rfl rfl (by repeat (first | exact InH.nil | refine InH.cons rfl ?_)) (by (simp only [pI, List.map_cons, List.map_nil, z8z, z9z, gl, nx, p4p, Nat.beq, Nat.add_eq, List.getD_cons_zero, List.getD_cons_succ, List.getD_nil, Bool.or_false, Bool.false_or, Bool.true_or, Bool.or_true, Nat.add_zero, Nat.zero_add]; rfl)) (by (simp only [pI, List.map_cons, List.map_nil, z8z, z9z, gl, nx, p4p, Nat.beq, Nat.add_eq, List.getD_cons_zero, List.getD_cons_succ, List.getD_nil, Bool.or_false, Bool.false_or, Bool.true_or, Bool.or_true, Nat.add_zero, Nat.zero_add]; rfl)) ?_
  refine z2z rfl rfl z5z rfl rfl rfl rfl ?_
  refine x2x rfl ?_
  rw [c3x fX]
  refine y0y ?_
  exact ⟨.inr rfl, [γ 0, γ 1, γ 2, γ 3, γ 4, _, _, _, _, _], rfl, rfl, HE.row rfl rfl (HE.row rfl rfl (HE.row rfl rfl (HE.row rfl rfl (HE.row rfl rfl ((HE.same (id := 0) rfl (HE.same (id := 1) rfl (HE.same (id := 2) rfl (HE.same (id := 3) rfl (HE.same (id := 4) rfl HE.nil))))))))))⟩
 try simp at hc2
 have fK : a0r n := b0v.1 (by simpa using hc2)
 refine x9x ?_
 refine hK1 _ _ ?_
 clear hK1 K1
 refine x4x x7x (by rfl) ?_
 refine y1y rfl z5z rfl rfl rfl ?_
 refine c0l [5, 6, 7, 8, 9] [_, _, _, _, _] (s2s false n (by have := s6s fK.1; omega)) rfl rfl rfl (LendM.base (d1o rfl rfl rfl .nil)) rfl (by decide) rfl rfl (by repeat (first | exact InH.nil | refine InH.cons rfl ?_)) (by (simp only [pI, List.map_cons, List.map_nil, z8z, z9z, gl, nx, p4p, Nat.beq, Nat.add_eq, List.getD_cons_zero, List.getD_cons_succ, List.getD_nil, Bool.or_false, Bool.false_or, Bool.true_or, Bool.or_true, Nat.add_zero, Nat.zero_add]; rfl)) (by (simp only [pI, List.map_cons, List.map_nil, z8z, z9z, gl, nx, p4p, Nat.beq, Nat.add_eq, List.getD_cons_zero, List.getD_cons_succ, List.getD_nil, Bool.or_false, Bool.false_or, Bool.true_or, Bool.or_true, Nat.add_zero, Nat.zero_add]; rfl)) rfl rfl (d0c rfl) (by repeat (first | exact StrH.nil | refine StrH.dead ?_)) (by exact d6b .nil) ?_
 refine z2z rfl rfl z5z rfl rfl rfl rfl ?_
 refine x2x rfl ?_
 rw [c3w fK]
 refine y0y ?_
 exact ⟨.inr rfl, [γ 0, γ 1, γ 2, γ 3, γ 4, _, _, _, _, _], rfl, rfl, HE.row rfl rfl (HE.row rfl rfl (HE.row rfl rfl (HE.row rfl rfl (HE.row rfl rfl ((HE.same (id := 0) rfl (HE.same (id := 1) rfl (HE.same (id := 2) rfl (HE.same (id := 3) rfl (HE.same (id := 4) rfl HE.nil))))))))))⟩
end
section
set_option maxHeartbeats 1000000 in
theorem a7x (c : Bool) (n : Nd) (r g : Int) : Meth Tryz.prog 40 5 [] [.agg (a1d c n), .pv (.int .i64 r), .pv (.int .i64 g)] [(0, (0, .dead)), (1, (0, .dead)), (2, (0, .dead)), (3, (0, .dead)), (4, (0, .dead))] (.tup [.agg [pI (v7v n r g).1.id, .pv (.bool (v7v n r g).1.up), pI (v7v n r g).1.inc, pI (v7v n r g).1.g, .ref 0 0, .ref 1 0, .ref 2 0, pI (v7v n r g).1.led, pI (v7v n r g).1.version, .ref 3 0, .ref 4 0, pI (v7v n r g).1.round, pI (v7v n r g).1.low], .pv (.bool ((v7v n r g).2))]) [(0, (0, .row 65 5 ((v7v n r g).1.lanes.map a1i))), (1, (0, .row 76 7 ((v7v n r g).1.kept.map w0w))), (2, (0, .row 104 5 ((v7v n r g).1.outs.map r0r))), (3, (0, .row 141 3 ((v7v n r g).1.views.map a1j))), (4, (0, .row 3 1 ((v7v n r g).1.known.map a2w)))] := by
 refine u8u x7x (fn := Tryz.f40) (by kernel_rfl) (by kernel_rfl) rfl (O0 := [.agg [pI (v7v n r g).1.id, .pv (.bool (v7v n r g).1.up), pI (v7v n r g).1.inc, pI (v7v n r g).1.g, .ref 0 0, .ref 1 0, .ref 2 0, pI (v7v n r g).1.led, pI (v7v n r g).1.version, .ref 3 0, .ref 4 0, pI (v7v n r g).1.round, pI (v7v n r g).1.low], .pv (.bool ((v7v n r g).2))]) 5 7 (Nat.le_of_ble_eq_true rfl) (by rfl) (by repeat (first | exact BndH.nil | refine BndH.dead ?_ )) (by repeat (first | exact BndH.nil | refine BndH.row (u3u fun _ => rfl) ?_ )) (by rfl) fun γ => ?_
 show Ex Tryz.prog _ _ [(0, .agg (a1d c n)), (1, .pv (.int .i64 r)), (2, .pv (.int .i64 g))] [(0, ((γ 0), .dead)), (1, ((γ 1), .dead)), (2, ((γ 2), .dead)), (3, ((γ 3), .dead)), (4, ((γ 4), .dead)), (11, (0, .dead)), (10, (0, .dead)), (9, (0, .dead)), (8, (0, .dead)), (7, (0, .dead)), (6, (0, .dead)), (5, (0, .dead))] _
 refine x4x x7x (by rfl) ?_
 refine v5v (id := 5) rfl rfl rfl ?_
 refine u9u (id := 6) z5z a6g rfl ?_
 refine x2x rfl ?_
 refine x5x fun K1 hK1 => ?_
 refine x4x x7x (by rfl) ?_
 refine y1y rfl z5z rfl rfl rfl ?_
 refine y7y rfl rfl rfl (b3k c n) ?_
 refine w2w rfl ?_
 refine x8x rfl (fun hc2 => ?_) (fun hc2 => ?_)
 ·try simp at hc2
  have fX : ¬ a0r n := a4z (by simpa using hc2)
  refine x4x x7x (by rfl) ?_
  refine s5s z5z rfl a6g rfl (by simp only [pI, y9y, T3, b4p, T4, p3p, T22, w1w, T23, u6u, T24, u7u, T25, p8p, T26, a2g, q9q, AV.okc, AV.one, Value.oneCell', List.map_cons, List.map_nil, List.getElem?_cons_zero, List.getElem?_cons_succ, List.take_succ_cons, List.take_zero, List.drop_succ_cons, List.drop_zero, List.cons_append, List.nil_append, List.length_cons, List.length_nil, if_true, and_self, Nat.reduceAdd, Nat.reduceLeDiff]; rfl) ?_
  refine z2z rfl rfl z5z rfl rfl rfl rfl ?_
  refine x2x rfl ?_
  (rw [c6t fX]; refine a3i 6 4 0 65 5 rfl rfl rfl rfl rfl ?_; refine a3i 6 5 1 76 7 rfl rfl rfl rfl rfl ?_; refine a3i 6 6 2 104 5 rfl rfl rfl rfl rfl ?_; refine a3i 6 9 3 141 3 rfl rfl rfl rfl rfl ?_; refine a3i 6 10 4 3 1 rfl rfl rfl rfl rfl ?_)
  refine y0y ?_
  exact ⟨.inr rfl, [_, _, _, _, _], rfl, rfl, HE.row rfl rfl (HE.row rfl rfl (HE.row rfl rfl (HE.row rfl rfl (HE.row rfl rfl HE.nil))))⟩
 try simp at hc2
 have fK : a0r n := b0v.1 (by simpa using hc2)
 have fS := fK.1
 have fB := s6s fS
 have fV := fS.2.2.2.2.2.1
 have fN : ∀ (i : Nat) l, n.lanes[i]? = some l → (a1c n.id 4)[i]? = some l.proc := fun i l h => (fS.2.2.2.2.2.2.2.1 i l h).1
 refine x9x ?_
 refine hK1 _ _ ?_
 clear hK1 K1
 refine x4x x7x (by rfl) ?_
 refine y1y rfl z5z rfl rfl rfl ?_
 refine v4v [7, 8, 9, 10, 11] [_, _, _, _, _] (b3g c n (by omega) (by omega) fS.2.2.2.2.2.2.1) rfl rfl rfl (by decide) rfl rfl (by repeat (first | exact InH.nil | refine InH.cons rfl ?_)) (by (simp only [pI, List.map_cons, List.map_nil, z8z, z9z, gl, nx, p4p, Nat.beq, Nat.add_eq, List.getD_cons_zero, List.getD_cons_succ, List.getD_nil, Bool.or_false, Bool.false_or, Bool.true_or, Bool.or_true, Nat.add_zero, Nat.zero_add]; rfl)) (by (simp only [pI, List.map_cons, List.map_nil, z8z, z9z, gl, nx, p4p, Nat.beq, Nat.add_eq, List.getD_cons_zero, List.getD_cons_succ, List.getD_nil, Bool.or_false, Bool.false_or, Bool.true_or, Bool.or_true, Nat.add_zero, Nat.zero_add]; rfl)) ?_
 refine x2x rfl ?_
 refine x4x x7x (by rfl) ?_
 refine x0x rfl z5z rfl rfl b4p rfl rfl ?_
 refine x3x rfl b4p rfl rfl ?_
 refine x1x rfl ?_
 refine s9s rfl rfl (fun hg3 => ?_) (fun hg3 => ?_)
 rotate_left
 ·try simp at hg3
  have fU : ¬ a0h n r g := by (rintro ⟨m1, m2, m3, m4, m5, m6, m7, m8⟩; (simp_all; done))
  refine x6x rfl rfl ?_
  refine y2y rfl rfl ?_
  refine x1x rfl ?_
  refine x6x rfl rfl ?_
  refine x6x rfl rfl ?_
  refine x6x rfl rfl ?_
  refine x6x rfl rfl ?_
  refine y2y rfl rfl ?_
  refine x1x rfl ?_
  refine x6x rfl rfl ?_
  refine x6x rfl rfl ?_
  refine x6x rfl rfl ?_
  refine x6x rfl rfl ?_
  refine y2y rfl rfl ?_
  refine x1x rfl ?_
  refine x6x rfl rfl ?_
  refine x6x rfl rfl ?_
  refine y2y rfl rfl ?_
  refine x1x rfl ?_
  refine x6x rfl rfl ?_
  refine x6x rfl rfl ?_
  refine x6x rfl rfl ?_
  refine x6x rfl rfl ?_
  refine y2y rfl rfl ?_
  refine x1x rfl ?_
  refine x6x rfl rfl ?_
  refine x6x rfl rfl ?_
  refine x6x rfl rfl ?_
  refine x6x rfl rfl ?_
  refine y2y rfl rfl ?_
  refine x1x rfl ?_
  refine x6x rfl rfl ?_
  refine x6x rfl rfl ?_
  refine x6x rfl rfl ?_
  refine y2y rfl rfl ?_
  refine x2x rfl ?_
  refine x5x fun K24 hK24 => ?_
  refine x4x x7x (by rfl) ?_
  refine x1x rfl ?_
  refine w2w rfl ?_
  refine x8x rfl (fun hc25 => ?_) (fun hc25 => ?_)
  rotate_left
  ·simp at hc25
  try simp at hc25
  have fU : ¬ a0h n r g := by exact fU
  refine x4x x7x (by rfl) ?_
  refine y1y rfl z5z rfl rfl rfl ?_
  refine v4v [0, 1, 2, 3, 4] [_, _, _, _, _] (s2s c n (by omega)) rfl rfl rfl (by decide) rfl rfl (by repeat (first | exact InH.nil | refine InH.cons rfl ?_)) (by (simp only [pI, List.map_cons, List.map_nil, z8z, z9z, gl, nx, p4p, Nat.beq, Nat.add_eq, List.getD_cons_zero, List.getD_cons_succ, List.getD_nil, Bool.or_false, Bool.false_or, Bool.true_or, Bool.or_true, Nat.add_zero, Nat.zero_add]; rfl)) (by (simp only [pI, List.map_cons, List.map_nil, z8z, z9z, gl, nx, p4p, Nat.beq, Nat.add_eq, List.getD_cons_zero, List.getD_cons_succ, List.getD_nil, Bool.or_false, Bool.false_or, Bool.true_or, Bool.or_true, Nat.add_zero, Nat.zero_add]; rfl)) ?_
  refine z2z rfl rfl z5z rfl rfl rfl rfl ?_
  refine x2x rfl ?_
  rw [a1m fK fU]
  refine y0y ?_
  exact ⟨.inr rfl, [_, _, _, _, _], rfl, rfl, HE.row rfl rfl (HE.row rfl rfl (HE.row rfl rfl (HE.row rfl rfl (HE.row rfl rfl HE.nil))))⟩
 try simp at hg3
 have fUp : n.up = true := by exact hg3
 refine x1x rfl ?_
 refine y5y rfl rfl ?_
 refine y3y rfl rfl rfl ?_
 refine y8y rfl rfl ?_
 refine x1x rfl ?_
 refine s9s rfl rfl (fun hg4 => ?_) (fun hg4 => ?_)
 rotate_left
 ·try simp at hg4
  have fU : ¬ a0h n r g := by (rintro ⟨m1, m2, m3, m4, m5, m6, m7, m8⟩; omega)
  refine x6x rfl rfl ?_
  refine x6x rfl rfl ?_
  refine x6x rfl rfl ?_
  refine y2y rfl rfl ?_
  refine x1x rfl ?_
  refine x6x rfl rfl ?_
  refine x6x rfl rfl ?_
  refine x6x rfl rfl ?_
  refine x6x rfl rfl ?_
  refine y2y rfl rfl ?_
  refine x1x rfl ?_
  refine x6x rfl rfl ?_
  refine x6x rfl rfl ?_
  refine y2y rfl rfl ?_
  refine x1x rfl ?_
  refine x6x rfl rfl ?_
  refine x6x rfl rfl ?_
  refine x6x rfl rfl ?_
  refine x6x rfl rfl ?_
  refine y2y rfl rfl ?_
  refine x1x rfl ?_
  refine x6x rfl rfl ?_
  refine x6x rfl rfl ?_
  refine x6x rfl rfl ?_
  refine x6x rfl rfl ?_
  refine y2y rfl rfl ?_
  refine x1x rfl ?_
  refine x6x rfl rfl ?_
  refine x6x rfl rfl ?_
  refine x6x rfl rfl ?_
  refine y2y rfl rfl ?_
  refine x2x rfl ?_
  refine x5x fun K22 hK22 => ?_
  refine x4x x7x (by rfl) ?_
  refine x1x rfl ?_
  refine w2w rfl ?_
  refine x8x rfl (fun hc23 => ?_) (fun hc23 => ?_)
  rotate_left
  ·simp at hc23
  try simp at hc23
  have fU : ¬ a0h n r g := by exact fU
  refine x4x x7x (by rfl) ?_
  refine y1y rfl z5z rfl rfl rfl ?_
  refine v4v [0, 1, 2, 3, 4] [_, _, _, _, _] (s2s c n (by omega)) rfl rfl rfl (by decide) rfl rfl (by repeat (first | exact InH.nil | refine InH.cons rfl ?_)) (by (simp only [pI, List.map_cons, List.map_nil, z8z, z9z, gl, nx, p4p, Nat.beq, Nat.add_eq, List.getD_cons_zero, List.getD_cons_succ, List.getD_nil, Bool.or_false, Bool.false_or, Bool.true_or, Bool.or_true, Nat.add_zero, Nat.zero_add]; rfl)) (by (simp only [pI, List.map_cons, List.map_nil, z8z, z9z, gl, nx, p4p, Nat.beq, Nat.add_eq, List.getD_cons_zero, List.getD_cons_succ, List.getD_nil, Bool.or_false, Bool.false_or, Bool.true_or, Bool.or_true, Nat.add_zero, Nat.zero_add]; rfl)) ?_
  refine z2z rfl rfl z5z rfl rfl rfl rfl ?_
  refine x2x rfl ?_
  rw [a1m fK fU]
  refine y0y ?_
  exact ⟨.inr rfl, [_, _, _, _, _], rfl, rfl, HE.row rfl rfl (HE.row rfl rfl (HE.row rfl rfl (HE.row rfl rfl (HE.row rfl rfl HE.nil))))⟩
 try simp at hg4
 refine x1x rfl ?_
 refine y5y rfl rfl ?_
 refine x0x rfl z5z rfl rfl y9y rfl rfl ?_
 refine y5y rfl rfl ?_
 refine x3x rfl y9y rfl rfl ?_
 refine y5y rfl rfl ?_
 refine y3y rfl rfl rfl ?_
 refine y8y rfl rfl ?_
 refine x1x rfl ?_
 refine s9s rfl rfl (fun hg5 => ?_) (fun hg5 => ?_)
 rotate_left
 ·try simp at hg5
  have fU : ¬ a0h n r g := by (rintro ⟨m1, m2, m3, m4, m5, m6, m7, m8⟩; omega)
  refine x6x rfl rfl ?_
  refine x6x rfl rfl ?_
  refine x6x rfl rfl ?_
  refine y2y rfl rfl ?_
  refine x1x rfl ?_
  refine x6x rfl rfl ?_
  refine x6x rfl rfl ?_
  refine y2y rfl rfl ?_
  refine x1x rfl ?_
  refine x6x rfl rfl ?_
  refine x6x rfl rfl ?_
  refine x6x rfl rfl ?_
  refine x6x rfl rfl ?_
  refine y2y rfl rfl ?_
  refine x1x rfl ?_
  refine x6x rfl rfl ?_
  refine x6x rfl rfl ?_
  refine x6x rfl rfl ?_
  refine x6x rfl rfl ?_
  refine y2y rfl rfl ?_
  refine x1x rfl ?_
  refine x6x rfl rfl ?_
  refine x6x rfl rfl ?_
  refine x6x rfl rfl ?_
  refine y2y rfl rfl ?_
  refine x2x rfl ?_
  refine x5x fun K20 hK20 => ?_
  refine x4x x7x (by rfl) ?_
  refine x1x rfl ?_
  refine w2w rfl ?_
  refine x8x rfl (fun hc21 => ?_) (fun hc21 => ?_)
  rotate_left
  ·simp at hc21
  try simp at hc21
  have fU : ¬ a0h n r g := by exact fU
  refine x4x x7x (by rfl) ?_
  refine y1y rfl z5z rfl rfl rfl ?_
  refine v4v [0, 1, 2, 3, 4] [_, _, _, _, _] (s2s c n (by omega)) rfl rfl rfl (by decide) rfl rfl (by repeat (first | exact InH.nil | refine InH.cons rfl ?_)) (by (simp only [pI, List.map_cons, List.map_nil, z8z, z9z, gl, nx, p4p, Nat.beq, Nat.add_eq, List.getD_cons_zero, List.getD_cons_succ, List.getD_nil, Bool.or_false, Bool.false_or, Bool.true_or, Bool.or_true, Nat.add_zero, Nat.zero_add]; rfl)) (by (simp only [pI, List.map_cons, List.map_nil, z8z, z9z, gl, nx, p4p, Nat.beq, Nat.add_eq, List.getD_cons_zero, List.getD_cons_succ, List.getD_nil, Bool.or_false, Bool.false_or, Bool.true_or, Bool.or_true, Nat.add_zero, Nat.zero_add]; rfl)) ?_
  refine z2z rfl rfl z5z rfl rfl rfl rfl ?_
  refine x2x rfl ?_
  rw [a1m fK fU]
  refine y0y ?_
  exact ⟨.inr rfl, [_, _, _, _, _], rfl, rfl, HE.row rfl rfl (HE.row rfl rfl (HE.row rfl rfl (HE.row rfl rfl (HE.row rfl rfl HE.nil))))⟩
 try simp at hg5
 refine x1x rfl ?_
 refine y5y rfl rfl ?_
 refine x0x rfl z5z rfl rfl y9y rfl rfl ?_
 refine y5y rfl rfl ?_
 refine x3x rfl y9y rfl rfl ?_
 refine y5y rfl rfl ?_
 refine y3y rfl rfl rfl ?_
 refine y8y rfl rfl ?_
 refine x1x rfl ?_
 refine s9s rfl rfl (fun hg6 => ?_) (fun hg6 => ?_)
 rotate_left
 ·try simp at hg6
  have fU : ¬ a0h n r g := by (rintro ⟨m1, m2, m3, m4, m5, m6, m7, m8⟩; omega)
  refine x6x rfl rfl ?_
  refine y2y rfl rfl ?_
  refine x1x rfl ?_
  refine x6x rfl rfl ?_
  refine x6x rfl rfl ?_
  refine x6x rfl rfl ?_
  refine x6x rfl rfl ?_
  refine y2y rfl rfl ?_
  refine x1x rfl ?_
  refine x6x rfl rfl ?_
  refine x6x rfl rfl ?_
  refine x6x rfl rfl ?_
  refine x6x rfl rfl ?_
  refine y2y rfl rfl ?_
  refine x1x rfl ?_
  refine x6x rfl rfl ?_
  refine x6x rfl rfl ?_
  refine x6x rfl rfl ?_
  refine y2y rfl rfl ?_
  refine x2x rfl ?_
  refine x5x fun K18 hK18 => ?_
  refine x4x x7x (by rfl) ?_
  refine x1x rfl ?_
  refine w2w rfl ?_
  refine x8x rfl (fun hc19 => ?_) (fun hc19 => ?_)
  rotate_left
  ·simp at hc19
  try simp at hc19
  have fU : ¬ a0h n r g := by exact fU
  refine x4x x7x (by rfl) ?_
  refine y1y rfl z5z rfl rfl rfl ?_
  refine v4v [0, 1, 2, 3, 4] [_, _, _, _, _] (s2s c n (by omega)) rfl rfl rfl (by decide) rfl rfl (by repeat (first | exact InH.nil | refine InH.cons rfl ?_)) (by (simp only [pI, List.map_cons, List.map_nil, z8z, z9z, gl, nx, p4p, Nat.beq, Nat.add_eq, List.getD_cons_zero, List.getD_cons_succ, List.getD_nil, Bool.or_false, Bool.false_or, Bool.true_or, Bool.or_true, Nat.add_zero, Nat.zero_add]; rfl)) (by (simp only [pI, List.map_cons, List.map_nil, z8z, z9z, gl, nx, p4p, Nat.beq, Nat.add_eq, List.getD_cons_zero, List.getD_cons_succ, List.getD_nil, Bool.or_false, Bool.false_or, Bool.true_or, Bool.or_true, Nat.add_zero, Nat.zero_add]; rfl)) ?_
  refine z2z rfl rfl z5z rfl rfl rfl rfl ?_
  refine x2x rfl ?_
  rw [a1m fK fU]
  refine y0y ?_
  exact ⟨.inr rfl, [_, _, _, _, _], rfl, rfl, HE.row rfl rfl (HE.row rfl rfl (HE.row rfl rfl (HE.row rfl rfl (HE.row rfl rfl HE.nil))))⟩
 try simp at hg6
 refine x1x rfl ?_
 refine y5y rfl rfl ?_
 refine y3y rfl rfl rfl ?_
 refine y8y rfl rfl ?_
 refine x1x rfl ?_
 refine s9s rfl rfl (fun hg7 => ?_) (fun hg7 => ?_)
 rotate_left
 ·try simp at hg7
  have fU : ¬ a0h n r g := by (rintro ⟨m1, m2, m3, m4, m5, m6, m7, m8⟩; omega)
  refine x6x rfl rfl ?_
  refine x6x rfl rfl ?_
  refine x6x rfl rfl ?_
  refine y2y rfl rfl ?_
  refine x1x rfl ?_
  refine x6x rfl rfl ?_
  refine x6x rfl rfl ?_
  refine x6x rfl rfl ?_
  refine x6x rfl rfl ?_
  refine y2y rfl rfl ?_
  refine x1x rfl ?_
  refine x6x rfl rfl ?_
  refine x6x rfl rfl ?_
  refine x6x rfl rfl ?_
  refine y2y rfl rfl ?_
  refine x2x rfl ?_
  refine x5x fun K16 hK16 => ?_
  refine x4x x7x (by rfl) ?_
  refine x1x rfl ?_
  refine w2w rfl ?_
  refine x8x rfl (fun hc17 => ?_) (fun hc17 => ?_)
  rotate_left
  ·simp at hc17
  try simp at hc17
  have fU : ¬ a0h n r g := by exact fU
  refine x4x x7x (by rfl) ?_
  refine y1y rfl z5z rfl rfl rfl ?_
  refine v4v [0, 1, 2, 3, 4] [_, _, _, _, _] (s2s c n (by omega)) rfl rfl rfl (by decide) rfl rfl (by repeat (first | exact InH.nil | refine InH.cons rfl ?_)) (by (simp only [pI, List.map_cons, List.map_nil, z8z, z9z, gl, nx, p4p, Nat.beq, Nat.add_eq, List.getD_cons_zero, List.getD_cons_succ, List.getD_nil, Bool.or_false, Bool.false_or, Bool.true_or, Bool.or_true, Nat.add_zero, Nat.zero_add]; rfl)) (by (simp only [pI, List.map_cons, List.map_nil, z8z, z9z, gl, nx, p4p, Nat.beq, Nat.add_eq, List.getD_cons_zero, List.getD_cons_succ, List.getD_nil, Bool.or_false, Bool.false_or, Bool.true_or, Bool.or_true, Nat.add_zero, Nat.zero_add]; rfl)) ?_
  refine z2z rfl rfl z5z rfl rfl rfl rfl ?_
  refine x2x rfl ?_
  rw [a1m fK fU]
  refine y0y ?_
  exact ⟨.inr rfl, [_, _, _, _, _], rfl, rfl, HE.row rfl rfl (HE.row rfl rfl (HE.row rfl rfl (HE.row rfl rfl (HE.row rfl rfl HE.nil))))⟩
 try simp at hg7
 refine x0x rfl z5z rfl rfl y9y rfl rfl ?_
 refine y5y rfl rfl ?_
 refine x3x rfl y9y rfl rfl ?_
 refine y5y rfl rfl ?_
 refine x1x rfl ?_
 refine y5y rfl rfl ?_
 refine y3y rfl rfl rfl ?_
 refine y8y rfl rfl ?_
 refine x1x rfl ?_
 refine s9s rfl rfl (fun hg8 => ?_) (fun hg8 => ?_)
 rotate_left
 ·try simp at hg8
  have fU : ¬ a0h n r g := by (rintro ⟨m1, m2, m3, m4, m5, m6, m7, m8⟩; omega)
  refine x6x rfl rfl ?_
  refine x6x rfl rfl ?_
  refine x6x rfl rfl ?_
  refine y2y rfl rfl ?_
  refine x1x rfl ?_
  refine x6x rfl rfl ?_
  refine x6x rfl rfl ?_
  refine x6x rfl rfl ?_
  refine y2y rfl rfl ?_
  refine x2x rfl ?_
  refine x5x fun K14 hK14 => ?_
  refine x4x x7x (by rfl) ?_
  refine x1x rfl ?_
  refine w2w rfl ?_
  refine x8x rfl (fun hc15 => ?_) (fun hc15 => ?_)
  rotate_left
  ·simp at hc15
  try simp at hc15
  have fU : ¬ a0h n r g := by exact fU
  refine x4x x7x (by rfl) ?_
  refine y1y rfl z5z rfl rfl rfl ?_
  refine v4v [0, 1, 2, 3, 4] [_, _, _, _, _] (s2s c n (by omega)) rfl rfl rfl (by decide) rfl rfl (by repeat (first | exact InH.nil | refine InH.cons rfl ?_)) (by (simp only [pI, List.map_cons, List.map_nil, z8z, z9z, gl, nx, p4p, Nat.beq, Nat.add_eq, List.getD_cons_zero, List.getD_cons_succ, List.getD_nil, Bool.or_false, Bool.false_or, Bool.true_or, Bool.or_true, Nat.add_zero, Nat.zero_add]; rfl)) (by (simp only [pI, List.map_cons, List.map_nil, z8z, z9z, gl, nx, p4p, Nat.beq, Nat.add_eq, List.getD_cons_zero, List.getD_cons_succ, List.getD_nil, Bool.or_false, Bool.false_or, Bool.true_or, Bool.or_true, Nat.add_zero, Nat.zero_add]; rfl)) ?_
  refine z2z rfl rfl z5z rfl rfl rfl rfl ?_
  refine x2x rfl ?_
  rw [a1m fK fU]
  refine y0y ?_
  exact ⟨.inr rfl, [_, _, _, _, _], rfl, rfl, HE.row rfl rfl (HE.row rfl rfl (HE.row rfl rfl (HE.row rfl rfl (HE.row rfl rfl HE.nil))))⟩
 try simp at hg8
 refine x1x rfl ?_
 refine y5y rfl rfl ?_
 refine v4v [7, 8, 9, 10, 11] [_, _, _, _, _] (b7u c n fK) rfl rfl rfl (by decide) rfl rfl (by repeat (first | exact InH.nil | refine InH.cons rfl ?_)) (by (simp only [pI, List.map_cons, List.map_nil, z8z, z9z, gl, nx, p4p, Nat.beq, Nat.add_eq, List.getD_cons_zero, List.getD_cons_succ, List.getD_nil, Bool.or_false, Bool.false_or, Bool.true_or, Bool.or_true, Nat.add_zero, Nat.zero_add]; rfl)) (by (simp only [pI, List.map_cons, List.map_nil, z8z, z9z, gl, nx, p4p, Nat.beq, Nat.add_eq, List.getD_cons_zero, List.getD_cons_succ, List.getD_nil, Bool.or_false, Bool.false_or, Bool.true_or, Bool.or_true, Nat.add_zero, Nat.zero_add]; rfl)) ?_
 refine y5y rfl rfl ?_
 refine x1x rfl ?_
 refine y5y rfl rfl ?_
 refine y3y rfl rfl rfl ?_
 refine y8y rfl rfl ?_
 refine x1x rfl ?_
 refine s9s rfl rfl (fun hg9 => ?_) (fun hg9 => ?_)
 rotate_left
 ·try simp at hg9
  have fU : ¬ a0h n r g := by (rintro ⟨m1, m2, m3, m4, m5, m6, m7, m8⟩; omega)
  refine x6x rfl rfl ?_
  refine x6x rfl rfl ?_
  refine y2y rfl rfl ?_
  refine x2x rfl ?_
  refine x5x fun K12 hK12 => ?_
  refine x4x x7x (by rfl) ?_
  refine x1x rfl ?_
  refine w2w rfl ?_
  refine x8x rfl (fun hc13 => ?_) (fun hc13 => ?_)
  rotate_left
  ·simp at hc13
  try simp at hc13
  have fU : ¬ a0h n r g := by exact fU
  refine x4x x7x (by rfl) ?_
  refine y1y rfl z5z rfl rfl rfl ?_
  refine v4v [0, 1, 2, 3, 4] [_, _, _, _, _] (s2s c n (by omega)) rfl rfl rfl (by decide) rfl rfl (by repeat (first | exact InH.nil | refine InH.cons rfl ?_)) (by (simp only [pI, List.map_cons, List.map_nil, z8z, z9z, gl, nx, p4p, Nat.beq, Nat.add_eq, List.getD_cons_zero, List.getD_cons_succ, List.getD_nil, Bool.or_false, Bool.false_or, Bool.true_or, Bool.or_true, Nat.add_zero, Nat.zero_add]; rfl)) (by (simp only [pI, List.map_cons, List.map_nil, z8z, z9z, gl, nx, p4p, Nat.beq, Nat.add_eq, List.getD_cons_zero, List.getD_cons_succ, List.getD_nil, Bool.or_false, Bool.false_or, Bool.true_or, Bool.or_true, Nat.add_zero, Nat.zero_add]; rfl)) ?_
  refine z2z rfl rfl z5z rfl rfl rfl rfl ?_
  refine x2x rfl ?_
  rw [a1m fK fU]
  refine y0y ?_
  exact ⟨.inr rfl, [_, _, _, _, _], rfl, rfl, HE.row rfl rfl (HE.row rfl rfl (HE.row rfl rfl (HE.row rfl rfl (HE.row rfl rfl HE.nil))))⟩
 try simp at hg9
 refine x0x rfl z5z rfl rfl y9y rfl rfl ?_
 refine y5y rfl rfl ?_
 refine x3x rfl y9y rfl rfl ?_
 refine y5y rfl rfl ?_
 refine y3y rfl rfl rfl ?_
 refine y8y rfl rfl ?_
 refine x2x rfl ?_
 refine x5x fun K10 hK10 => ?_
 refine x4x x7x (by rfl) ?_
 refine x1x rfl ?_
 refine w2w rfl ?_
 refine x8x rfl (fun hc11 => ?_) (fun hc11 => ?_)
 ·try simp at hc11
  have fU : ¬ a0h n r g := by (rintro ⟨m1, m2, m3, m4, m5, m6, m7, m8⟩; omega)
  refine x4x x7x (by rfl) ?_
  refine y1y rfl z5z rfl rfl rfl ?_
  refine v4v [0, 1, 2, 3, 4] [_, _, _, _, _] (s2s c n (by omega)) rfl rfl rfl (by decide) rfl rfl (by repeat (first | exact InH.nil | refine InH.cons rfl ?_)) (by (simp only [pI, List.map_cons, List.map_nil, z8z, z9z, gl, nx, p4p, Nat.beq, Nat.add_eq, List.getD_cons_zero, List.getD_cons_succ, List.getD_nil, Bool.or_false, Bool.false_or, Bool.true_or, Bool.or_true, Nat.add_zero, Nat.zero_add]; rfl)) (by (simp only [pI, List.map_cons, List.map_nil, z8z, z9z, gl, nx, p4p, Nat.beq, Nat.add_eq, List.getD_cons_zero, List.getD_cons_succ, List.getD_nil, Bool.or_false, Bool.false_or, Bool.true_or, Bool.or_true, Nat.add_zero, Nat.zero_add]; rfl)) ?_
  refine z2z rfl rfl z5z rfl rfl rfl rfl ?_
  refine x2x rfl ?_
  rw [a1m fK fU]
  refine y0y ?_
  exact ⟨.inr rfl, [_, _, _, _, _], rfl, rfl, HE.row rfl rfl (HE.row rfl rfl (HE.row rfl rfl (HE.row rfl rfl (HE.row rfl rfl HE.nil))))⟩
 try simp at hc11
 have fM : a0h n r g := ⟨fUp, by omega, by omega, by omega, by omega, by omega, by omega, by omega⟩
 refine x9x ?_
 refine hK10 _ _ ?_
 clear hK10 K10
 refine x4x x7x (by rfl) ?_
 refine x1x rfl ?_
 refine x1x rfl ?_
 refine v4v [7, 8, 9, 10, 11] [_, _, _, _, _] (b3m c n g fS) rfl rfl rfl (by decide) rfl rfl (by repeat (first | exact InH.nil | refine InH.cons rfl ?_)) (by (simp only [pI, List.map_cons, List.map_nil, z8z, z9z, gl, nx, p4p, Nat.beq, Nat.add_eq, List.getD_cons_zero, List.getD_cons_succ, List.getD_nil, Bool.or_false, Bool.false_or, Bool.true_or, Bool.or_true, Nat.add_zero, Nat.zero_add]; rfl)) (by (simp only [pI, List.map_cons, List.map_nil, z8z, z9z, gl, nx, p4p, Nat.beq, Nat.add_eq, List.getD_cons_zero, List.getD_cons_succ, List.getD_nil, Bool.or_false, Bool.false_or, Bool.true_or, Bool.or_true, Nat.add_zero, Nat.zero_add]; rfl)) ?_
 refine d7j 11 rfl (.same (.same (.same (.same (.same (.le (b := a0i c (r7r n g).kept) rfl (Le.low_map fun _ => rfl) rfl (.le (b := a0z c (r7r n g).outs) rfl (Le.low_map fun _ => rfl) rfl (LeCs.refl _)))))))) ?_
 refine x4x x7x (by rfl) ?_
 refine y1y rfl z5z rfl rfl rfl ?_
 refine x1x rfl ?_
 refine v4v [7, 8, 9, 10, 11, 0, 1, 2, 3, 4] [_, _, _, _, _, _, _, _, _, _] (b8t c n (r7r n g) (by omega) (by show (n.lanes.map (a9e g)).length ≤ 1048576; rw [List.length_map]; omega) (fun i l h => by obtain ⟨l0, e1, e2⟩ := d5v h; subst e2; exact fN i l0 e1) fV) rfl rfl rfl (by decide) rfl rfl (by repeat (first | exact InH.nil | refine InH.cons rfl ?_)) (by (simp only [pI, List.map_cons, List.map_nil, z8z, z9z, gl, nx, p4p, Nat.beq, Nat.add_eq, List.getD_cons_zero, List.getD_cons_succ, List.getD_nil, Bool.or_false, Bool.false_or, Bool.true_or, Bool.or_true, Nat.add_zero, Nat.zero_add]; rfl)) (by (simp only [pI, List.map_cons, List.map_nil, z8z, z9z, gl, nx, p4p, Nat.beq, Nat.add_eq, List.getD_cons_zero, List.getD_cons_succ, List.getD_nil, Bool.or_false, Bool.false_or, Bool.true_or, Bool.or_true, Nat.add_zero, Nat.zero_add]; rfl)) ?_
 refine w6w rfl rfl ?_
 refine w6w rfl rfl ?_
 refine z2z rfl rfl z5z rfl rfl rfl rfl ?_
 refine x2x rfl ?_
 rw [c1g fK fM]
 refine y0y ?_
 exact ⟨.inr rfl, [_, _, _, _, _], rfl, rfl, HE.row rfl rfl (HE.row rfl rfl (HE.row rfl rfl (HE.row rfl rfl (HE.row rfl rfl HE.nil))))⟩
end
section
theorem a4d (c : Bool) (l : La) (f t : Nat) (hlen : l.done.length ≤ 1000000) (hf : f ≤ 1000000) (ht : t ≤ 1000000) (hb : ∀ p ∈ l.done, p.sends.length ≤ 1000000 ∧ p.outs.length ≤ 1000000) : a0o Tryz.prog 122 [.agg (a0m c l), .pv (.int .i64 (f : Int)), .pv (.int .i64 (t : Int))] (.agg (a0m true (b4a l f t))) := by
 refine z4z x7x (fn := Tryz.f122) (by kernel_rfl) (by kernel_rfl) rfl (outs := [.agg (a0m true (b4a l f t))]) (by rfl) (Nat.le_of_ble_eq_true rfl) 11 ?_
 refine x4x x7x (by rfl) ?_
 refine v5v (id := 0) rfl rfl rfl ?_
 refine u9u (id := 1) v2v a6u rfl ?_
 refine x4x x7x (by rfl) ?_
 refine x0x rfl v2v rfl rfl y9y rfl rfl ?_
 refine x3x rfl y9y rfl rfl ?_
 refine x0x rfl v2v rfl rfl p5p rfl rfl ?_
 refine x3x rfl p5p rfl rfl ?_
 refine s5s v2v rfl a6u rfl (by simp only [pI, y9y, T3, p5p, T62, v3v, T63, a2g, q9q, AV.okc, AV.one, Value.oneCell', List.map_cons, List.map_nil, List.getElem?_cons_zero, List.getElem?_cons_succ, List.take_succ_cons, List.take_zero, List.drop_succ_cons, List.drop_zero, List.cons_append, List.nil_append, List.length_cons, List.length_nil, if_true, and_self, Nat.reduceAdd, Nat.reduceLeDiff]; rfl) ?_
 refine u9u (id := 2) v2v a6u rfl ?_
 refine z2z rfl rfl v2v rfl rfl rfl rfl ?_
 refine x5x fun K1 hK1 => ?_
 refine x4x x7x (by rfl) ?_
 refine x1x rfl ?_
 refine x2x rfl ?_
 refine y6y ?_
 refine a3i 2 4 10 78 12 rfl rfl rfl rfl rfl ?_
 refine u4u (ι := Nat) (fun i γ1 => [(8, .pv (.int .i64 (i : Int)))]) (fun i γ1 => [(10, ((γ1 10), .row 78 12 (((l.done.take i).drop f).map (a2j true)))), (2, ((0 + 1), .box 65 [pI l.proc, pI l.base.x, pI l.base.y, pI l.base.count, .ref 10 (γ1 10)])), (3, ((γ1 3), .dead)), (4, ((γ1 4), .dead)), (5, ((γ1 5), .dead)), (6, ((γ1 6), .dead)), (7, ((γ1 7), .dead)), (8, ((γ1 8), .dead)), (9, ((γ1 9), .dead))]) (fun i => f ≤ i ∧ (i = f ∨ (i ≤ t ∧ i ≤ l.done.length))) (fun i => l.done.length - i) (Cov.cons (t := 2) rfl (Cov.cons (t := 3) rfl (Cov.cons (t := 6) rfl (Cov.cons (t := 7) rfl Cov.nil)))) (HE.same (id := 0) rfl (HE.same (id := 1) rfl HE.nil)) f ⟨Nat.le_refl _, .inl rfl⟩ [0, 0, 0, _, _, _, _, _, _, _, _] (Cov.cons (t := 8) rfl Cov.nil) (HE.row rfl (by rw [List.drop_of_length_le (by rw [List.length_take]; omega)]; rfl) (HE.box rfl rfl (HE.kill rfl (HE.kill rfl (HE.kill rfl (HE.kill rfl (HE.kill rfl (HE.kill rfl (HE.kill rfl HE.nil))))))))) rfl fun i γ1 hi => ?_
 try dsimp only [List.cons_append, List.nil_append]
 obtain ⟨k1, k2⟩ := hi
 refine x5x fun K2 hK2 => ?_
 refine x4x x7x (by rfl) ?_
 refine x1x rfl ?_
 refine x1x rfl ?_
 refine y3y rfl rfl rfl ?_
 refine x1x rfl ?_
 refine s9s rfl rfl (fun hg3 => ?_) (fun hg3 => ?_)
 rotate_left
 ·try simp at hg3
  refine x6x rfl rfl ?_
  refine x6x rfl rfl ?_
  refine x6x rfl rfl ?_
  refine x6x rfl rfl ?_
  refine y2y rfl rfl ?_
  refine x8x rfl (fun hc6 => ?_) (fun hc6 => ?_)
  ·simp at hc6
  try simp at hc6
  have hfin : (l.done.take i).drop f = (l.done.take t).drop f := d0w k1 k2 (by omega)
  refine v0v ?_
  refine hK1 _ _ ?_
  clear hK2 K2 hK1 K1
  refine x4x x7x (by rfl) ?_
  refine y1y rfl v2v rfl rfl rfl ?_
  refine z2z rfl rfl v2v rfl rfl rfl rfl ?_
  refine y0y ⟨.inr rfl, ?_⟩
  rw [b4a, ← hfin]
  exact ⟨_, _, rfl, .agg rfl (.cl rfl (.cl rfl (.cl rfl (.cl rfl (.ref rfl (Le.ow_map _ (fun _ => rfl) (fun _ => rfl)) .nil))))) .nil⟩
 try simp at hg3
 refine x1x rfl ?_
 refine y5y rfl rfl ?_
 refine x0x rfl v2v rfl rfl v3v rfl rfl ?_
 refine y5y rfl rfl ?_
 refine x3x rfl v3v rfl rfl ?_
 refine y5y rfl rfl ?_
 refine u2u rfl v3v rfl ?_
 refine y5y rfl rfl ?_
 refine y3y rfl rfl rfl ?_
 refine y8y rfl rfl ?_
 refine x8x rfl (fun hc4 => ?_) (fun hc4 => ?_)
 rotate_left
 ·try simp at hc4
  have hfin : (l.done.take i).drop f = (l.done.take t).drop f := d0w k1 k2 (by omega)
  refine v0v ?_
  refine hK1 _ _ ?_
  clear hK2 K2 hK1 K1
  refine x4x x7x (by rfl) ?_
  refine y1y rfl v2v rfl rfl rfl ?_
  refine z2z rfl rfl v2v rfl rfl rfl rfl ?_
  refine y0y ⟨.inr rfl, ?_⟩
  rw [b4a, ← hfin]
  exact ⟨_, _, rfl, .agg rfl (.cl rfl (.cl rfl (.cl rfl (.cl rfl (.ref rfl (Le.ow_map _ (fun _ => rfl) (fun _ => rfl)) .nil))))) .nil⟩
 try simp at hc4
 obtain ⟨p, hp⟩ : ∃ p, l.done[i]? = some p := ⟨_, List.getElem?_eq_getElem (by omega)⟩
 have g1 : i < t := by omega
 obtain ⟨hps, hpo⟩ := hb p (List.mem_of_getElem? hp)
 refine x9x ?_
 refine hK2 _ _ ?_
 clear hK2 K2
 refine x5x fun K5 hK5 => ?_
 refine y6y ?_
 refine x4x x7x (by rfl) ?_
 refine x0x rfl v2v rfl rfl v3v rfl rfl ?_
 refine x3x rfl v3v rfl rfl ?_
 refine x1x rfl ?_
 refine z7z rfl rfl v3v rfl v8v rfl hp ?_
 refine z6z rfl v8v rfl rfl ?_
 refine u9u (id := 3) v8v b6f rfl ?_
 refine z2z rfl rfl v8v rfl rfl rfl rfl ?_
 refine s3s x7x r2r (by rfl) ?_
 refine x0x rfl v2v rfl rfl v3v rfl rfl ?_
 refine x3x rfl v3v rfl rfl ?_
 refine x0x rfl v8v rfl rfl z1z rfl rfl ?_
 refine x3x (out := .agg (w0w p.ev)) rfl z1z rfl rfl ?_
 refine x0x rfl v8v rfl rfl p5p rfl rfl ?_
 refine x3x (out := .agg (a0b p.after)) rfl p5p rfl rfl ?_
 refine r4r (id := 4) u6u rfl z1z rfl ?_
 refine x0x rfl v8v rfl rfl u6u rfl rfl ?_
 refine x3x rfl u6u rfl rfl ?_
 refine a9n x7x (zs := (p.sends).map w0w) rfl rfl u6u rfl z1z rfl rfl rfl (by exact r9r (fun _ => rfl) _) rfl (by (simp only [List.length_map, List.length_append, List.length_cons, List.length_nil, List.length_take, List.length_range, List.length_drop, T76]; omega)) (Le.ow_map _ (fun _ => rfl) (fun _ => rfl)) ?_
 refine r4r (id := 6) u7u rfl u0u rfl ?_
 refine x0x rfl v8v rfl rfl u7u rfl rfl ?_
 refine x3x rfl u7u rfl rfl ?_
 refine a9n x7x (zs := (p.outs).map r0r) rfl rfl u7u rfl u0u rfl rfl rfl (by exact r9r (fun _ => rfl) _) rfl (by (simp only [List.length_map, List.length_append, List.length_cons, List.length_nil, List.length_take, List.length_range, List.length_drop, T104]; omega)) (Le.ow_map _ (fun _ => rfl) (fun _ => rfl)) ?_
 refine s5s v8v rfl b6f rfl (by simp only [pI, u6u, T24, u7u, T25, p5p, T62, z1z, T76, a2g, q9q, AV.okc, AV.one, Value.oneCell', List.map_cons, List.map_nil, List.getElem?_cons_zero, List.getElem?_cons_succ, List.take_succ_cons, List.take_zero, List.drop_succ_cons, List.drop_zero, List.cons_append, List.nil_append, List.length_cons, List.length_nil, if_true, and_self, Nat.reduceAdd, Nat.reduceLeDiff]; rfl) ?_
 refine r6r (id := 8) v3v rfl v8v rfl rfl rfl rfl rfl rfl ?_
 refine r8r (zs := ((l.done.take i).drop f ++ [p]).map (a2j true)) rfl rfl v3v rfl v8v rfl rfl rfl rfl (by rfl) (a0j _ _ _) (by (simp only [List.length_map, List.length_append, List.length_cons, List.length_nil, List.length_take, List.length_range, List.length_drop, T78]; omega)) ?_
 refine x0x rfl v2v rfl rfl v3v rfl rfl ?_
 refine u5u rfl rfl v3v rfl rfl rfl rfl rfl (by simp only [List.set_cons_zero, List.set_cons_succ]; rfl) ?_
 refine ⟨by kernel_rfl, ?_⟩
 refine hK5 _ _ ?_
 clear hK5 K5
 refine y4y x7x (by rfl) ?_
 refine x1x rfl ?_
 refine u1u (b := 1) rfl rfl (by omega) ?_
 refine x2x rfl ?_
 exact ⟨i + 1, ⟨⟨by omega, .inr ⟨by omega, by omega⟩⟩, by omega⟩, [0, 0, 0, _, _, _, _, _, _, _, _], (Cov.cons (t := 8) rfl Cov.nil), (Cov.cons (t := 2) rfl (Cov.cons (t := 3) rfl (Cov.cons (t := 6) rfl (Cov.cons (t := 7) rfl Cov.nil)))), (HE.row rfl (by rw [p1p hp, List.drop_append_of_le_length (by rw [List.length_take]; omega)]) (HE.box rfl rfl (HE.kill rfl (HE.kill rfl (HE.kill rfl (HE.kill rfl (HE.kill rfl (HE.kill rfl (HE.kill rfl HE.nil))))))))), (HE.same (id := 0) rfl (HE.same (id := 1) rfl HE.nil)), rfl⟩
theorem b4g (c : Bool) (n : Nd) (hl : n.lanes.length ≤ 1000000) (hk : n.kept.length ≤ 1000000) (ho : n.outs.length ≤ 1000000) (hd : ∀ l ∈ n.lanes, lb l) : Meth Tryz.prog 77 3 [] [.agg (a1d c n)] [(0, (0, .dead)), (1, (0, .dead)), (2, (0, .dead))] (.agg [pI n.id, .pv (.bool n.up), pI n.inc, pI n.g, .ref 0 0, a0i true n.kept, a0z true n.outs, pI n.led, pI 0, .ref 1 0, .ref 2 0, pI 0, pI 41]) [(0, (0, .row 65 5 ((n.lanes.map a7t).map (a0m true)))), (1, (0, .row 141 3 ([vi0, vi0, vi0].map (a2n true)))), (2, (0, .row 3 1 ([0, 0, 0].map a2w)))] := by
 refine u8u x7x (fn := Tryz.f77) (by kernel_rfl) (by kernel_rfl) rfl (O0 := [.agg [pI n.id, .pv (.bool n.up), pI n.inc, pI n.g, .ref 0 0, a0i true n.kept, a0z true n.outs, pI n.led, pI 0, .ref 1 0, .ref 2 0, pI 0, pI 41]]) 3 13 (Nat.le_of_ble_eq_true rfl) (by rfl) (by repeat (first | exact BndH.nil | refine BndH.dead ?_)) (by repeat (first | exact BndH.nil | refine BndH.row (u3u fun _ => rfl) ?_)) (by rfl) fun γ => ?_
 show Ex Tryz.prog _ _ [(0, .agg (a1d c n))] [(0, ((γ 0), .dead)), (1, ((γ 1), .dead)), (2, ((γ 2), .dead)), (15, (0, .dead)), (14, (0, .dead)), (13, (0, .dead)), (12, (0, .dead)), (11, (0, .dead)), (10, (0, .dead)), (9, (0, .dead)), (8, (0, .dead)), (7, (0, .dead)), (6, (0, .dead)), (5, (0, .dead)), (4, (0, .dead)), (3, (0, .dead))] _
 refine x4x x7x (by rfl) ?_
 refine v5v (id := 3) rfl rfl rfl ?_
 refine u9u (id := 4) z5z a6g rfl ?_
 refine p6p x7x r2r (by rfl) ?_
 refine x0x rfl z5z rfl rfl y9y rfl rfl ?_
 refine x3x rfl y9y rfl rfl ?_
 refine x0x rfl z5z rfl rfl b4p rfl rfl ?_
 refine x3x rfl b4p rfl rfl ?_
 refine x0x rfl z5z rfl rfl y9y rfl rfl ?_
 refine x3x rfl y9y rfl rfl ?_
 refine x0x rfl z5z rfl rfl y9y rfl rfl ?_
 refine x3x rfl y9y rfl rfl ?_
 refine r4r (id := 5) u6u rfl z1z rfl ?_
 refine x0x rfl z5z rfl rfl u6u rfl rfl ?_
 refine x3x rfl u6u rfl rfl ?_
 refine a9n x7x (zs := (n.kept).map w0w) rfl rfl u6u rfl z1z rfl rfl rfl (by exact r9r (fun _ => rfl) _) rfl (by (simp only [List.length_map, List.length_append, List.length_cons, List.length_nil, List.length_take, List.length_range, List.length_drop, T76]; omega)) (Le.ow_map _ (fun _ => rfl) (fun _ => rfl)) ?_
 refine r4r (id := 7) u7u rfl u0u rfl ?_
 refine x0x rfl z5z rfl rfl u7u rfl rfl ?_
 refine x3x rfl u7u rfl rfl ?_
 refine a9n x7x (zs := (n.outs).map r0r) rfl rfl u7u rfl u0u rfl rfl rfl (by exact r9r (fun _ => rfl) _) rfl (by (simp only [List.length_map, List.length_append, List.length_cons, List.length_nil, List.length_take, List.length_range, List.length_drop, T104]; omega)) (Le.ow_map _ (fun _ => rfl) (fun _ => rfl)) ?_
 refine x0x rfl z5z rfl rfl y9y rfl rfl ?_
 refine x3x rfl y9y rfl rfl ?_
 refine s5s z5z rfl a6g rfl (by simp only [pI, y9y, T3, b4p, T4, p3p, T22, w1w, T23, u6u, T24, u7u, T25, p8p, T26, a2g, q9q, AV.okc, AV.one, Value.oneCell', List.map_cons, List.map_nil, List.getElem?_cons_zero, List.getElem?_cons_succ, List.take_succ_cons, List.take_zero, List.drop_succ_cons, List.drop_zero, List.cons_append, List.nil_append, List.length_cons, List.length_nil, if_true, and_self, Nat.reduceAdd, Nat.reduceLeDiff]; rfl) ?_
 refine u9u (id := 9) z5z a6g rfl ?_
 refine z2z rfl rfl z5z rfl rfl rfl rfl ?_
 refine ⟨by kernel_rfl, ?_⟩
 refine x5x fun K1 hK1 => ?_
 refine x4x x7x (by rfl) ?_
 refine x2x rfl ?_
 refine y6y ?_
 refine a3i 9 4 0 65 5 rfl rfl rfl rfl rfl ?_
 refine u4u (ι := Nat) (fun i γ1 => [(4, .pv (.int .i64 (i : Int)))]) (fun i γ1 => [(0, ((γ1 0), .row 65 5 (((n.lanes.take i).map a7t).map (a0m true)))), (9, ((0 + 1), .box 28 [pI n.id, .pv (.bool n.up), pI n.inc, pI n.g, .ref 0 (γ1 0), a0i true n.kept, a0z true n.outs, pI n.led, pI 0, .pv (.slice none 0 0), .pv (.slice none 0 0), pI 0, pI 41])), (10, ((γ1 10), .dead)), (11, ((γ1 11), .dead))]) (fun i => i ≤ n.lanes.length) (fun i => n.lanes.length - i) (Cov.cons (t := 1) rfl (Cov.cons (t := 2) rfl (Cov.cons (t := 3) rfl Cov.nil))) (HE.same (id := 1) rfl (HE.same (id := 2) rfl (HE.same (id := 3) rfl (HE.same (id := 4) rfl (HE.same (id := 5) rfl (HE.same (id := 6) rfl (HE.same (id := 7) rfl (HE.same (id := 8) rfl (HE.same (id := 12) rfl (HE.same (id := 13) rfl (HE.same (id := 14) rfl (HE.same (id := 15) rfl HE.nil)))))))))))) 0 (by omega) [_, 0, 0, 0, 0, 0, 0, 0, 0, 0, _, _] (Cov.cons (t := 4) rfl Cov.nil) (HE.row rfl (by rw [List.take_zero]; rfl) (HE.box rfl rfl (HE.kill rfl (HE.kill rfl HE.nil)))) rfl fun i γ1 hi => ?_
 try dsimp only [List.cons_append, List.nil_append]
 refine x5x fun K2 hK2 => ?_
 refine x4x x7x (by rfl) ?_
 refine x1x rfl ?_
 refine x0x rfl z5z rfl rfl w1w rfl rfl ?_
 refine x3x rfl w1w rfl rfl ?_
 refine u2u rfl w1w rfl ?_
 refine y3y rfl rfl rfl ?_
 refine x8x rfl (fun hc3 => ?_) (fun hc3 => ?_)
 ·try simp at hc3
  obtain ⟨a, ha⟩ : ∃ a, n.lanes[i]? = some a := ⟨_, List.getElem?_eq_getElem (by omega)⟩
  have had := hd a (List.mem_of_getElem? ha)
  refine x9x ?_
  refine hK2 _ _ ?_
  clear hK2 K2
  refine x5x fun K4 hK4 => ?_
  refine y6y ?_
  refine s3s x7x r2r (by rfl) ?_
  refine x0x rfl z5z rfl rfl w1w rfl rfl ?_
  refine x3x rfl w1w rfl rfl ?_
  refine x0x rfl z5z rfl rfl w1w rfl rfl ?_
  refine x3x rfl w1w rfl rfl ?_
  refine x1x rfl ?_
  refine z7z rfl rfl w1w rfl v2v rfl ha ?_
  refine z6z rfl v2v rfl rfl ?_
  refine y7y rfl rfl rfl (a4d c a 0 0 had.1 (by omega) (by omega) had.2) ?_
  refine r6r (id := 10) w1w rfl v2v rfl rfl rfl rfl rfl rfl ?_
  refine r8r (zs := ((n.lanes.take i).map a7t ++ [a7t a]).map (a0m true)) rfl rfl w1w rfl v2v rfl rfl rfl rfl (by rfl) (a0j _ _ _) (by (simp only [List.length_map, List.length_append, List.length_cons, List.length_nil, List.length_take, List.length_range, List.length_drop, T65]; omega)) ?_
  refine x0x rfl z5z rfl rfl w1w rfl rfl ?_
  refine u5u rfl rfl w1w rfl rfl rfl rfl rfl (by simp only [List.set_cons_zero, List.set_cons_succ]; rfl) ?_
  refine ⟨by kernel_rfl, ?_⟩
  refine hK4 _ _ ?_
  clear hK4 K4
  refine y4y x7x (by rfl) ?_
  refine x1x rfl ?_
  refine y3y rfl rfl rfl ?_
  refine x2x rfl ?_
  exact ⟨i + 1, ⟨by omega, by omega⟩, [_, 0, 0, 0, 0, 0, 0, 0, 0, 0, _, _], (Cov.cons' (t := 4) rfl (by rw [v6v (by omega) (by omega)]; rfl) Cov.nil), (Cov.cons (t := 1) rfl (Cov.cons (t := 2) rfl (Cov.cons (t := 3) rfl Cov.nil))), (HE.row rfl (by simp only [p1p ha, List.map_append, List.map_cons, List.map_nil]) (HE.box rfl rfl (HE.kill rfl (HE.kill rfl HE.nil)))), (HE.same (id := 1) rfl (HE.same (id := 2) rfl (HE.same (id := 3) rfl (HE.same (id := 4) rfl (HE.same (id := 5) rfl (HE.same (id := 6) rfl (HE.same (id := 7) rfl (HE.same (id := 8) rfl (HE.same (id := 12) rfl (HE.same (id := 13) rfl (HE.same (id := 14) rfl (HE.same (id := 15) rfl HE.nil)))))))))))), rfl⟩
 try simp at hc3
 obtain rfl : i = n.lanes.length := by omega
 refine v0v ?_
 refine hK1 _ _ ?_
 clear hK2 K2 hK1 K1
 refine x5x fun K5 hK5 => ?_
 refine x4x x7x (by rfl) ?_
 refine x2x rfl ?_
 refine y6y ?_
 refine a3i 9 9 1 141 3 rfl rfl rfl rfl rfl ?_
 refine a3i 9 10 2 3 1 rfl rfl rfl rfl rfl ?_
 refine u4u (ι := Nat) (fun i γ2 => [(5, .pv (.int .i64 (i : Int)))]) (fun i γ2 => [(1, ((γ2 1), .row 141 3 ((List.range i).map fun _ => c6u))), (2, ((γ2 2), .row 3 1 ((List.range i).map fun _ => a2w 0))), (9, ((0 + 1), .box 28 [pI n.id, .pv (.bool n.up), pI n.inc, pI n.g, .ref 0 (γ1 0), a0i true n.kept, a0z true n.outs, pI n.led, pI 0, .ref 1 (γ2 1), .ref 2 (γ2 2), pI 0, pI 41])), (12, ((γ2 12), .dead)), (13, ((γ2 13), .dead)), (14, ((γ2 14), .dead)), (15, ((γ2 15), .dead))]) (fun i => i ≤ 3) (fun i => 3 - i) (Cov.cons (t := 2) rfl (Cov.cons (t := 3) rfl Cov.nil)) (HE.same (id := 0) rfl (HE.same (id := 3) rfl (HE.same (id := 4) rfl (HE.same (id := 5) rfl (HE.same (id := 6) rfl (HE.same (id := 7) rfl (HE.same (id := 8) rfl (HE.same (id := 10) rfl (HE.same (id := 11) rfl HE.nil))))))))) 0 (by omega) [0, _, _, 0, 0, 0, 0, 0, 0, 0, 0, 0, _, _, _, _] (Cov.cons (t := 5) rfl Cov.nil) (HE.row rfl rfl (HE.row rfl rfl (HE.box rfl rfl (HE.kill rfl (HE.kill rfl (HE.kill rfl (HE.kill rfl HE.nil))))))) rfl fun i γ2 hi => ?_
 try dsimp only [List.cons_append, List.nil_append]
 refine x5x fun K6 hK6 => ?_
 refine x4x x7x (by rfl) ?_
 refine x1x rfl ?_
 refine y3y rfl rfl rfl ?_
 refine x8x rfl (fun hc7 => ?_) (fun hc7 => ?_)
 rotate_left
 ·try simp at hc7
  obtain rfl : i = 3 := by omega
  rw [List.take_length]
  refine v0v ?_
  refine hK5 _ _ ?_
  clear hK6 K6 hK5 K5
  refine x4x x7x (by rfl) ?_
  refine y1y rfl z5z rfl rfl rfl ?_
  refine z2z rfl rfl z5z rfl rfl rfl rfl ?_
  refine d3z (f := fun _ => c6u) (f' := fun _ => a2n true vi0) (l := List.range 3) 1 rfl (fun _ => .same (.same (.le rfl .nil rfl .nil))) ?_
  refine y0y ?_
  exact ⟨.inr rfl, [_, _, _], rfl, rfl, HE.row rfl rfl (HE.row rfl rfl (HE.row rfl rfl HE.nil))⟩
 try simp at hc7
 refine x9x ?_
 refine hK6 _ _ ?_
 clear hK6 K6
 refine x5x fun K8 hK8 => ?_
 refine y6y ?_
 refine x4x x7x (by rfl) ?_
 refine x0x rfl z5z rfl rfl p8p rfl rfl ?_
 refine x3x rfl p8p rfl rfl ?_
 refine s5s w5w rfl b0t rfl (by simp only [pI, y9y, T3, u6u, T24, a2g, q9q, AV.okc, AV.one, Value.oneCell', List.map_cons, List.map_nil, List.getElem?_cons_zero, List.getElem?_cons_succ, List.take_succ_cons, List.take_zero, List.drop_succ_cons, List.drop_zero, List.cons_append, List.nil_append, List.length_cons, List.length_nil, if_true, and_self, Nat.reduceAdd, Nat.reduceLeDiff]; rfl) ?_
 refine r6r (id := 12) p8p rfl w5w rfl rfl rfl rfl rfl rfl ?_
 refine r8r (zs := (List.range i).map (fun _ => c6u) ++ [c6u]) rfl rfl p8p rfl w5w rfl rfl rfl rfl (by rfl) rfl (by (simp only [List.length_map, List.length_append, List.length_cons, List.length_nil, List.length_take, List.length_range, List.length_drop, T141]; omega)) ?_
 refine x0x rfl z5z rfl rfl p8p rfl rfl ?_
 refine u5u rfl rfl p8p rfl rfl rfl rfl rfl (by simp only [List.set_cons_zero, List.set_cons_succ]; rfl) ?_
 refine y4y x7x (by rfl) ?_
 refine x0x rfl z5z rfl rfl p3p rfl rfl ?_
 refine x3x rfl p3p rfl rfl ?_
 refine c2o (id := 14) p3p rfl y9y rfl rfl rfl rfl rfl ?_
 refine r8r (zs := (List.range i).map (fun _ => a2w 0) ++ [a2w 0]) rfl rfl p3p rfl y9y rfl rfl rfl rfl (by rfl) rfl (by (simp only [List.length_map, List.length_append, List.length_cons, List.length_nil, List.length_take, List.length_range, List.length_drop, T3]; omega)) ?_
 refine x0x rfl z5z rfl rfl p3p rfl rfl ?_
 refine u5u rfl rfl p3p rfl rfl rfl rfl rfl (by simp only [List.set_cons_zero, List.set_cons_succ]; rfl) ?_
 refine hK8 _ _ ?_
 clear hK8 K8
 refine y4y x7x (by rfl) ?_
 refine x1x rfl ?_
 refine y3y rfl rfl rfl ?_
 refine x2x rfl ?_
 exact ⟨i + 1, ⟨by omega, by omega⟩, [0, _, _, 0, 0, 0, 0, 0, 0, 0, 0, 0, _, _, _, _], (Cov.cons' (t := 5) rfl (by rw [v6v (by omega) (by omega)]; rfl) Cov.nil), (Cov.cons (t := 2) rfl (Cov.cons (t := 3) rfl Cov.nil)), (HE.row rfl (by rw [List.range_succ, List.map_append]; rfl) (HE.row rfl (by rw [List.range_succ, List.map_append]; rfl) (HE.box rfl rfl (HE.kill rfl (HE.kill rfl (HE.kill rfl (HE.kill rfl HE.nil))))))), (HE.same (id := 0) rfl (HE.same (id := 3) rfl (HE.same (id := 4) rfl (HE.same (id := 5) rfl (HE.same (id := 6) rfl (HE.same (id := 7) rfl (HE.same (id := 8) rfl (HE.same (id := 10) rfl (HE.same (id := 11) rfl HE.nil))))))))), rfl⟩
end
section
theorem b3n (c : Bool) (l : La) (h : lb l) : a0o Tryz.prog 122 [.agg (a0m c l), .pv (.int .i64 ((0 : Nat) : Int)), .pv (.int .i64 (l.done.length : Int))] (.agg (a0m true l)) := by
 have := a4d c l 0 l.done.length h.1 (by omega) h.1 h.2
 rw [c5h] at this
 exact this
set_option maxHeartbeats 1000000 in
theorem a4w (c : Bool) (n : Nd) (h : nb n) : Meth Tryz.prog 110 3 [] [.agg (a1d c n)] [(0, (0, .dead)), (1, (0, .dead)), (2, (0, .dead))] (.agg [pI n.id, .pv (.bool n.up), pI n.inc, pI n.g, .ref 0 0, a0i true n.kept, a0z true n.outs, pI n.led, pI n.version, .ref 1 0, .ref 2 0, pI n.round, pI n.low]) [(0, (0, .row 65 5 ((n.lanes).map (a0m true)))), (1, (0, .row 141 3 ((n.views).map (a2n true)))), (2, (0, .row 3 1 (n.known.map a2w)))] := by
 refine u8u x7x (fn := Tryz.f110) (by kernel_rfl) (by kernel_rfl) rfl (O0 := [.agg [pI n.id, .pv (.bool n.up), pI n.inc, pI n.g, .ref 0 0, a0i true n.kept, a0z true n.outs, pI n.led, pI n.version, .ref 1 0, .ref 2 0, pI n.round, pI n.low]]) 3 10 (Nat.le_of_ble_eq_true rfl) (by rfl) (by repeat (first | exact BndH.nil | refine BndH.dead ?_)) (by repeat (first | exact BndH.nil | refine BndH.row (u3u fun _ => rfl) ?_)) (by rfl) fun γ => ?_
 show Ex Tryz.prog _ _ [(0, .agg (a1d c n))] [(0, ((γ 0), .dead)), (1, ((γ 1), .dead)), (2, ((γ 2), .dead)), (12, (0, .dead)), (11, (0, .dead)), (10, (0, .dead)), (9, (0, .dead)), (8, (0, .dead)), (7, (0, .dead)), (6, (0, .dead)), (5, (0, .dead)), (4, (0, .dead)), (3, (0, .dead))] _
 obtain ⟨b1, b2, b3, b4, b5, b6, b7⟩ := h
 refine x4x x7x (by rfl) ?_
 refine v5v (id := 3) rfl rfl rfl ?_
 refine u9u (id := 4) z5z a6g rfl ?_
 refine x4x x7x (by rfl) ?_
 refine y1y rfl z5z rfl rfl rfl ?_
 refine v4v [0, 11, 12] [_, _, _] (b4g c n b1 b2 b3 b4) rfl rfl rfl (by decide) rfl rfl (by repeat (first | exact InH.nil | refine InH.cons rfl ?_)) (by (simp only [pI, List.map_cons, List.map_nil, z8z, z9z, gl, nx, p4p, Nat.beq, Nat.add_eq, List.getD_cons_zero, List.getD_cons_succ, List.getD_nil, Bool.or_false, Bool.false_or, Bool.true_or, Bool.or_true, Nat.add_zero, Nat.zero_add]; rfl)) (by (simp only [pI, List.map_cons, List.map_nil, z8z, z9z, gl, nx, p4p, Nat.beq, Nat.add_eq, List.getD_cons_zero, List.getD_cons_succ, List.getD_nil, Bool.or_false, Bool.false_or, Bool.true_or, Bool.or_true, Nat.add_zero, Nat.zero_add]; rfl)) ?_
 refine u9u (id := 5) z5z a6g rfl ?_
 refine z2z rfl rfl z5z rfl rfl rfl rfl ?_
 refine x5x fun K1 hK1 => ?_
 refine x4x x7x (by rfl) ?_
 refine x2x rfl ?_
 refine y6y ?_
 refine u4u (ι := Nat) (fun i γ1 => [(4, .pv (.int .i64 (i : Int)))]) (fun i γ1 => [(0, ((γ 0 + 1), .row 65 5 ((n.lanes.take i ++ (n.lanes.drop i).map a7t).map (a0m true))))]) (fun i => i ≤ n.lanes.length) (fun i => n.lanes.length - i) (Cov.cons (t := 1) rfl (Cov.cons (t := 2) rfl (Cov.cons (t := 3) rfl Cov.nil))) (HE.same (id := 1) rfl (HE.same (id := 2) rfl (HE.same (id := 3) rfl (HE.same (id := 4) rfl (HE.same (id := 5) rfl (HE.same (id := 6) rfl (HE.same (id := 7) rfl (HE.same (id := 8) rfl (HE.same (id := 9) rfl (HE.same (id := 10) rfl (HE.same (id := 11) rfl (HE.same (id := 12) rfl HE.nil)))))))))))) 0 (by omega) [] (Cov.cons (t := 4) rfl Cov.nil) (HE.row rfl (by rw [List.take_zero, List.drop_zero]; rfl) HE.nil) rfl fun i γ1 hi => ?_
 try dsimp only [List.cons_append, List.nil_append]
 refine x5x fun K2 hK2 => ?_
 refine x4x x7x (by rfl) ?_
 refine x1x rfl ?_
 refine x0x rfl z5z rfl rfl w1w rfl rfl ?_
 refine x3x rfl w1w rfl rfl ?_
 refine u2u rfl w1w rfl ?_
 refine y3y rfl rfl rfl ?_
 refine x8x rfl (fun hc3 => ?_) (fun hc3 => ?_)
 ·try simp at hc3
  obtain ⟨p, hp⟩ : ∃ p, n.lanes[i]? = some p := ⟨_, List.getElem?_eq_getElem (by omega)⟩
  have hpl := b4 p (List.mem_of_getElem? hp)
  have hAl : ((n.lanes.take i).map (a0m true)).length = i := by rw [List.length_map, List.length_take]; omega
  rw [q2q hp, List.map_cons, List.map_append, List.map_cons]
  refine x9x ?_
  refine hK2 _ _ ?_
  clear hK2 K2
  refine x5x fun K4 hK4 => ?_
  refine y6y ?_
  refine s3s x7x r2r (by rfl) ?_
  refine x0x rfl z5z rfl rfl w1w rfl rfl ?_
  refine x3x rfl w1w rfl rfl ?_
  refine x1x rfl ?_
  refine x0x rfl z5z rfl rfl w1w rfl rfl ?_
  refine x3x rfl w1w rfl rfl ?_
  refine x1x rfl ?_
  refine z7z rfl rfl w1w rfl v2v rfl hp ?_
  refine z6z rfl v2v rfl rfl ?_
  refine x0x rfl z5z rfl rfl w1w rfl rfl ?_
  refine x3x rfl w1w rfl rfl ?_
  refine x1x rfl ?_
  refine z7z rfl rfl w1w rfl v2v rfl hp ?_
  refine x0x rfl v2v rfl rfl v3v rfl rfl ?_
  refine z3z rfl v3v rfl ?_
  refine u2u rfl v3v rfl ?_
  refine y7y rfl rfl rfl (b3n c p hpl) ?_
  refine q7q rfl rfl w1w rfl v2v rfl rfl hAl ?_
  refine a2h hAl rfl rfl v2v rfl rfl rfl rfl (a9k rfl) rfl ?_
  refine ⟨by kernel_rfl, ?_⟩
  refine hK4 _ _ ?_
  clear hK4 K4
  refine y4y x7x (by rfl) ?_
  refine x1x rfl ?_
  refine y3y rfl rfl rfl ?_
  refine x2x rfl ?_
  exact ⟨i + 1, ⟨by omega, by omega⟩, [], (Cov.cons' (t := 4) rfl (by rw [v6v (by omega) (by omega)]; rfl) Cov.nil), (Cov.cons (t := 1) rfl (Cov.cons (t := 2) rfl (Cov.cons (t := 3) rfl Cov.nil))), (HE.row rfl (by simp only [p1p hp, List.map_append, List.append_assoc]; rfl) HE.nil), (HE.same (id := 1) rfl (HE.same (id := 2) rfl (HE.same (id := 3) rfl (HE.same (id := 4) rfl (HE.same (id := 5) rfl (HE.same (id := 6) rfl (HE.same (id := 7) rfl (HE.same (id := 8) rfl (HE.same (id := 9) rfl (HE.same (id := 10) rfl (HE.same (id := 11) rfl (HE.same (id := 12) rfl HE.nil)))))))))))), rfl⟩
 try simp at hc3
 obtain rfl : i = n.lanes.length := by omega
 rw [List.take_length, List.drop_length, List.map_nil, List.append_nil]
 refine v0v ?_
 refine hK1 _ _ ?_
 clear hK2 K2 hK1 K1
 refine x4x x7x (by rfl) ?_
 refine x0x rfl z5z rfl rfl y9y rfl rfl ?_
 refine x3x rfl y9y rfl rfl ?_
 refine x0x rfl z5z rfl rfl y9y rfl rfl ?_
 refine u5u rfl rfl y9y rfl rfl rfl rfl rfl (by simp only [List.set_cons_zero, List.set_cons_succ]; rfl) ?_
 refine x4x x7x (by rfl) ?_
 refine x0x rfl z5z rfl rfl y9y rfl rfl ?_
 refine x3x rfl y9y rfl rfl ?_
 refine x0x rfl z5z rfl rfl y9y rfl rfl ?_
 refine u5u rfl rfl y9y rfl rfl rfl rfl rfl (by simp only [List.set_cons_zero, List.set_cons_succ]; rfl) ?_
 refine x4x x7x (by rfl) ?_
 refine x0x rfl z5z rfl rfl y9y rfl rfl ?_
 refine x3x rfl y9y rfl rfl ?_
 refine x0x rfl z5z rfl rfl y9y rfl rfl ?_
 refine u5u rfl rfl y9y rfl rfl rfl rfl rfl (by simp only [List.set_cons_zero, List.set_cons_succ]; rfl) ?_
 refine x4x x7x (by rfl) ?_
 refine r4r (id := 1) p8p rfl w5w rfl ?_
 refine x0x rfl z5z rfl rfl p8p rfl rfl ?_
 refine u5u rfl rfl p8p rfl rfl rfl rfl rfl (by simp only [List.set_cons_zero, List.set_cons_succ]; rfl) ?_
 refine x5x fun K5 hK5 => ?_
 refine x4x x7x (by rfl) ?_
 refine x2x rfl ?_
 refine y6y ?_
 refine u4u (ι := Nat) (fun j γ2 => [(5, .pv (.int .i64 (j : Int)))]) (fun j γ2 => [(1, ((γ2 1), .row 141 3 ((n.views.take j).map (a2n true)))), (5, ((0 + 1), .box 28 [pI n.id, .pv (.bool n.up), pI n.inc, pI n.g, .ref 0 (γ 0 + 1), a0i true n.kept, a0z true n.outs, pI n.led, pI n.version, .ref 1 (γ2 1), .ref 12 (0 + 1), pI n.round, pI n.low])), (6, ((γ2 6), .dead)), (7, ((γ2 7), .dead)), (8, ((γ2 8), .dead)), (9, ((γ2 9), .dead))]) (fun j => j ≤ n.views.length) (fun j => n.views.length - j) (Cov.cons (t := 1) rfl (Cov.cons (t := 2) rfl (Cov.cons (t := 3) rfl Cov.nil))) (HE.same (id := 0) rfl (HE.same (id := 2) rfl (HE.same (id := 3) rfl (HE.same (id := 4) rfl (HE.same (id := 10) rfl (HE.same (id := 11) rfl (HE.same (id := 12) rfl HE.nil))))))) 0 (by omega) [0, _, 0, 0, 0, 0, _, _, _, _] (Cov.cons (t := 5) rfl Cov.nil) (HE.row rfl (by rw [List.take_zero]; rfl) (HE.box rfl rfl (HE.kill rfl (HE.kill rfl (HE.kill rfl (HE.kill rfl HE.nil)))))) rfl fun j γ2 hi => ?_
 try dsimp only [List.cons_append, List.nil_append]
 refine x5x fun K6 hK6 => ?_
 refine x4x x7x (by rfl) ?_
 refine x1x rfl ?_
 refine x0x rfl z5z rfl rfl p8p rfl rfl ?_
 refine x3x rfl p8p rfl rfl ?_
 refine u2u rfl p8p rfl ?_
 refine y3y rfl rfl rfl ?_
 refine x8x rfl (fun hc7 => ?_) (fun hc7 => ?_)
 rotate_left
 ·try simp at hc7
  obtain rfl : j = n.views.length := by omega
  rw [List.take_length]
  refine v0v ?_
  refine hK5 _ _ ?_
  clear hK6 K6 hK5 K5
  refine x4x x7x (by rfl) ?_
  refine r4r (id := 2) p3p rfl y9y rfl ?_
  refine x0x rfl z5z rfl rfl p3p rfl rfl ?_
  refine x3x rfl p3p rfl rfl ?_
  refine s1s (zs := n.known.map a2w) rfl rfl p3p rfl y9y rfl rfl rfl (by exact r9r (fun _ => rfl) _) rfl (by (simp only [List.length_map, List.length_append, List.length_cons, List.length_nil, List.length_take, List.length_range, List.length_drop, T3]; omega)) ?_
  refine x0x rfl z5z rfl rfl p3p rfl rfl ?_
  refine u5u rfl rfl p3p rfl rfl rfl rfl rfl (by simp only [List.set_cons_zero, List.set_cons_succ]; rfl) ?_
  refine x4x x7x (by rfl) ?_
  refine y1y rfl z5z rfl rfl rfl ?_
  refine z2z rfl rfl z5z rfl rfl rfl rfl ?_
  refine y0y ?_
  exact ⟨.inr rfl, [_, _, _], rfl, rfl, HE.row rfl rfl (HE.row rfl rfl (HE.row rfl rfl HE.nil))⟩
 try simp at hc7
 obtain ⟨v, hv⟩ : ∃ v, n.views[j]? = some v := ⟨_, List.getElem?_eq_getElem (by omega)⟩
 have hve := b6 v (List.mem_of_getElem? hv)
 refine x9x ?_
 refine hK6 _ _ ?_
 clear hK6 K6
 refine x5x fun K8 hK8 => ?_
 refine y6y ?_
 refine s3s x7x r2r (by rfl) ?_
 refine x0x rfl z5z rfl rfl p8p rfl rfl ?_
 refine x3x rfl p8p rfl rfl ?_
 refine x0x rfl z5z rfl rfl p8p rfl rfl ?_
 refine x3x rfl p8p rfl rfl ?_
 refine x1x rfl ?_
 refine z7z rfl rfl p8p rfl w5w rfl hv ?_
 refine x0x rfl w5w rfl rfl y9y rfl rfl ?_
 refine z3z rfl y9y rfl ?_
 refine x0x rfl z5z rfl rfl p8p rfl rfl ?_
 refine x3x rfl p8p rfl rfl ?_
 refine x1x rfl ?_
 refine z7z rfl rfl p8p rfl w5w rfl hv ?_
 refine x0x rfl w5w rfl rfl y9y rfl rfl ?_
 refine z3z rfl y9y rfl ?_
 refine r4r (id := 6) u6u rfl z1z rfl ?_
 refine x0x rfl z5z rfl rfl p8p rfl rfl ?_
 refine x3x rfl p8p rfl rfl ?_
 refine x1x rfl ?_
 refine z7z rfl rfl p8p rfl w5w rfl hv ?_
 refine x0x rfl w5w rfl rfl u6u rfl rfl ?_
 refine z3z rfl u6u rfl ?_
 refine a9n x7x (zs := (v.events).map w0w) rfl rfl u6u rfl z1z rfl rfl rfl (by exact r9r (fun _ => rfl) _) rfl (by (simp only [List.length_map, List.length_append, List.length_cons, List.length_nil, List.length_take, List.length_range, List.length_drop, T76]; omega)) (Le.ow_map _ (fun _ => rfl) (fun _ => rfl)) ?_
 refine s5s w5w rfl b0t rfl (by simp only [pI, y9y, T3, u6u, T24, a2g, q9q, AV.okc, AV.one, Value.oneCell', List.map_cons, List.map_nil, List.getElem?_cons_zero, List.getElem?_cons_succ, List.take_succ_cons, List.take_zero, List.drop_succ_cons, List.drop_zero, List.cons_append, List.nil_append, List.length_cons, List.length_nil, if_true, and_self, Nat.reduceAdd, Nat.reduceLeDiff]; rfl) ?_
 refine r6r (id := 8) p8p rfl w5w rfl rfl rfl rfl rfl rfl ?_
 refine r8r (zs := (n.views.take j ++ [v]).map (a2n true)) rfl rfl p8p rfl w5w rfl rfl rfl rfl (by rfl) (a0j _ _ _) (by (simp only [List.length_map, List.length_append, List.length_cons, List.length_nil, List.length_take, List.length_range, List.length_drop, T141]; omega)) ?_
 refine x0x rfl z5z rfl rfl p8p rfl rfl ?_
 refine u5u rfl rfl p8p rfl rfl rfl rfl rfl (by simp only [List.set_cons_zero, List.set_cons_succ]; rfl) ?_
 refine ⟨by kernel_rfl, ?_⟩
 refine hK8 _ _ ?_
 clear hK8 K8
 refine y4y x7x (by rfl) ?_
 refine x1x rfl ?_
 refine y3y rfl rfl rfl ?_
 refine x2x rfl ?_
 exact ⟨j + 1, ⟨by omega, by omega⟩, [0, _, 0, 0, 0, 0, _, _, _, _], (Cov.cons' (t := 5) rfl (by rw [v6v (by omega) (by omega)]; rfl) Cov.nil), (Cov.cons (t := 1) rfl (Cov.cons (t := 2) rfl (Cov.cons (t := 3) rfl Cov.nil))), (HE.row rfl (by rw [p1p hv]) (HE.box rfl rfl (HE.kill rfl (HE.kill rfl (HE.kill rfl (HE.kill rfl HE.nil)))))), (HE.same (id := 0) rfl (HE.same (id := 2) rfl (HE.same (id := 3) rfl (HE.same (id := 4) rfl (HE.same (id := 10) rfl (HE.same (id := 11) rfl (HE.same (id := 12) rfl HE.nil))))))), rfl⟩
end
section
theorem b7v (id : Int) : a0o Tryz.prog 76 [.pv (.int .i64 id)] (.row (.rd true) 65 5 ((a1c id 4).map fun p => a0m true (d0r p))) := by
 refine z4z x7x (fn := Tryz.f76) (by kernel_rfl) (by kernel_rfl) rfl (outs := [.row (.rd true) 65 5 ((a1c id 4).map fun p => a0m true (d0r p))]) (by rfl) (Nat.le_of_ble_eq_true rfl) 3 ?_
 have hpl := fun k => a5v id k
 refine x4x x7x (by rfl) ?_
 refine x2x rfl ?_
 refine x4x x7x (by rfl) ?_
 refine r4r (id := 0) w1w rfl v2v rfl ?_
 refine x2x rfl ?_
 refine x5x fun K1 hK1 => ?_
 refine x4x x7x (by rfl) ?_
 refine x2x rfl ?_
 refine y6y ?_
 refine u4u (ι := Nat) (fun i γ1 => [(3, .ref 0 (γ1 0)), (4, .pv (.int .i64 (i : Int)))]) (fun i γ1 => [(0, ((γ1 0), .row 65 5 ((a1c id i).map d1h))), (1, ((γ1 1), .dead)), (2, ((γ1 2), .dead))]) (fun i => i ≤ 4) (fun i => 4 - i) (Cov.cons (t := 0) rfl Cov.nil) HE.nil 0 (by omega) [_, _, _] (Cov.cons (t := 3) rfl (Cov.cons (t := 4) rfl Cov.nil)) (HE.row rfl rfl (HE.kill rfl (HE.kill rfl HE.nil))) rfl fun i γ1 hi => ?_
 try dsimp only [List.cons_append, List.nil_append]
 refine x5x fun K2 hK2 => ?_
 refine x4x x7x (by rfl) ?_
 refine x1x rfl ?_
 refine y3y rfl rfl rfl ?_
 refine x8x rfl (fun hc3 => ?_) (fun hc3 => ?_)
 rotate_left
 ·try simp at hc3
  refine v0v ?_
  refine hK1 _ _ ?_
  clear hK2 K2 hK1 K1
  refine x4x x7x (by rfl) ?_
  refine x1x rfl ?_
  refine x2x rfl ?_
  refine y0y ⟨.inr rfl, ?_⟩
  refine d2j rfl rfl d1i ?_
  have : i = 4 := by omega
  rw [this]
 try simp at hc3
 refine x9x ?_
 refine hK2 _ _ ?_
 clear hK2 K2
 refine x5x fun K4 hK4 => ?_
 refine y6y ?_
 refine x4x x7x (by rfl) ?_
 refine x1x rfl ?_
 refine y7y rfl rfl rfl (b3f ..) ?_
 refine x1x rfl ?_
 refine y3y rfl rfl rfl ?_
 refine x8x rfl (fun hc5 => ?_) (fun hc5 => ?_)
 rotate_left
 ·try simp at hc5
  refine x9x ?_
  refine hK4 _ _ ?_
  clear hK4 K4
  refine y4y x7x (by rfl) ?_
  refine x1x rfl ?_
  refine y3y rfl rfl rfl ?_
  refine x2x rfl ?_
  exact ⟨i + 1, ⟨by omega, by omega⟩, [_, _, _], (Cov.cons (t := 3) rfl (Cov.cons' (t := 4) rfl (by rw [v6v (by omega) (by omega)]; rfl) Cov.nil)), (Cov.cons (t := 0) rfl Cov.nil), (HE.row rfl (by simp only [a7s]; rw [if_neg (by assumption)]) (HE.kill rfl (HE.kill rfl HE.nil))), HE.nil, rfl⟩
 try simp at hc5
 refine y4y x7x (by rfl) ?_
 refine x1x rfl ?_
 refine x1x rfl ?_
 refine s5s v2v rfl a6u rfl (by simp only [pI, y9y, T3, p5p, T62, v3v, T63, a2g, q9q, AV.okc, AV.one, Value.oneCell', List.map_cons, List.map_nil, List.getElem?_cons_zero, List.getElem?_cons_succ, List.take_succ_cons, List.take_zero, List.drop_succ_cons, List.drop_zero, List.cons_append, List.nil_append, List.length_cons, List.length_nil, if_true, and_self, Nat.reduceAdd, Nat.reduceLeDiff]; rfl) ?_
 refine r6r (id := 1) w1w rfl v2v rfl rfl rfl rfl rfl rfl ?_
 have := hpl i
 refine r8r (zs := (a1c id i ++ [(i : Int)]).map d1h) rfl rfl w1w rfl v2v rfl rfl rfl rfl (by rfl) (a0j _ _ _) (by (simp only [List.length_map, List.length_append, List.length_cons, List.length_nil, List.length_take, List.length_range, T65]; omega)) ?_
 refine x2x rfl ?_
 refine hK4 _ _ ?_
 clear hK4 K4
 refine y4y x7x (by rfl) ?_
 refine x1x rfl ?_
 refine y3y rfl rfl rfl ?_
 refine x2x rfl ?_
 exact ⟨i + 1, ⟨by omega, by omega⟩, [_, _, _], (Cov.cons (t := 3) rfl (Cov.cons' (t := 4) rfl (by rw [v6v (by omega) (by omega)]; rfl) Cov.nil)), (Cov.cons (t := 0) rfl Cov.nil), (HE.row rfl (by simp only [a7s]; rw [if_pos (by assumption)]) (HE.kill rfl (HE.kill rfl HE.nil))), HE.nil, rfl⟩
end
section
theorem b1g (c c' : Bool) (l : La) (s : List Ev) : a0o Tryz.prog 161 [.agg (a0m c l), a0i c' s] (.pv (.int .i64 (same l.done s : Int))) := by
 refine z4z x7x (fn := Tryz.f161) (by kernel_rfl) (by kernel_rfl) rfl (outs := [.pv (.int .i64 (same l.done s : Int))]) (by rfl) (Nat.le_of_ble_eq_true rfl) 1 ?_
 refine w9w 1 rfl fun hlen => ?_
 refine x4x x7x (by rfl) ?_
 refine v5v (id := 0) rfl rfl rfl ?_
 refine x2x rfl ?_
 refine x4x x7x (by rfl) ?_
 refine x2x rfl ?_
 refine x5x fun K1 hK1 => ?_
 refine y6y ?_
 refine u4u (ι := Nat) (fun i γ1 => [(5, .pv (.int .i64 (i : Int)))]) (fun i γ1 => []) (fun i => i ≤ l.done.length ∧ i ≤ s.length ∧ same l.done s = i + same (l.done.drop i) (s.drop i)) (fun i => l.done.length - i) (Cov.cons (t := 1) rfl (Cov.cons (t := 2) rfl Cov.nil)) (HE.same (id := 0) rfl HE.nil) 0 ⟨by omega, by omega, by rw [List.drop_zero, List.drop_zero, Nat.zero_add]⟩ [] (Cov.cons (t := 5) rfl Cov.nil) HE.nil rfl fun i γ1 hi => ?_
 try dsimp only [List.cons_append, List.nil_append]
 obtain ⟨h1, h2, h3⟩ := hi
 refine x5x fun K2 hK2 => ?_
 refine p6p x7x r2r (by rfl) ?_
 refine x1x rfl ?_
 refine x0x rfl v2v rfl rfl v3v rfl rfl ?_
 refine x3x rfl v3v rfl rfl ?_
 refine u2u rfl v3v rfl ?_
 refine y3y rfl rfl rfl ?_
 refine x1x rfl ?_
 refine s9s rfl rfl (fun hg3 => ?_) (fun hg3 => ?_)
 rotate_left
 ·try simp at hg3
  have g1 : l.done.length ≤ i := by omega
  refine x6x rfl rfl ?_
  refine x6x rfl rfl ?_
  refine x6x rfl rfl ?_
  refine y2y rfl rfl ?_
  refine x1x rfl ?_
  refine x6x rfl rfl ?_
  refine x6x rfl rfl ?_
  refine x6x rfl rfl ?_
  refine x6x rfl rfl ?_
  refine x6x rfl rfl ?_
  refine x6x rfl rfl ?_
  refine x6x rfl rfl ?_
  refine x6x rfl rfl ?_
  refine x6x rfl rfl ?_
  refine x6x rfl rfl ?_
  refine x6x rfl rfl ?_
  refine y2y rfl rfl ?_
  refine ⟨by kernel_rfl, ?_⟩
  refine x8x rfl (fun hc7 => ?_) (fun hc7 => ?_)
  ·simp at hc7
  try simp at hc7
  try have heq : ¬ p.ev = e := by simpa [a3q] using hc7
  refine v0v ?_
  refine hK1 _ _ ?_
  clear hK2 K2 hK1 K1
  refine x4x x7x (by rfl) ?_
  refine x1x rfl ?_
  refine x2x rfl ?_
  refine y0y ⟨.inr rfl, ?_⟩
  refine z0z rfl ?_ rfl
  exact congrArg (fun v : Nat => [AV.pv (.int .i64 (v : Int))]) (h3.trans (by rw [c3n g1]; rfl)).symm
 try simp at hg3
 have g1 : i < l.done.length := by omega
 obtain ⟨p, hp⟩ : ∃ p, l.done[i]? = some p := ⟨_, List.getElem?_eq_getElem (by omega)⟩
 refine x1x rfl ?_
 refine y5y rfl rfl ?_
 refine x1x rfl ?_
 refine y5y rfl rfl ?_
 refine u2u rfl u6u rfl ?_
 refine y5y rfl rfl ?_
 refine y3y rfl rfl rfl ?_
 refine y8y rfl rfl ?_
 refine x1x rfl ?_
 refine s9s rfl rfl (fun hg4 => ?_) (fun hg4 => ?_)
 rotate_left
 ·try simp at hg4
  have g2 : s.length ≤ i := by omega
  refine x6x rfl rfl ?_
  refine x6x rfl rfl ?_
  refine x6x rfl rfl ?_
  refine x6x rfl rfl ?_
  refine x6x rfl rfl ?_
  refine x6x rfl rfl ?_
  refine x6x rfl rfl ?_
  refine x6x rfl rfl ?_
  refine x6x rfl rfl ?_
  refine x6x rfl rfl ?_
  refine y2y rfl rfl ?_
  refine ⟨by kernel_rfl, ?_⟩
  refine x8x rfl (fun hc6 => ?_) (fun hc6 => ?_)
  ·simp at hc6
  try simp at hc6
  try have heq : ¬ p.ev = e := by simpa [a3q] using hc6
  refine v0v ?_
  refine hK1 _ _ ?_
  clear hK2 K2 hK1 K1
  refine x4x x7x (by rfl) ?_
  refine x1x rfl ?_
  refine x2x rfl ?_
  refine y0y ⟨.inr rfl, ?_⟩
  refine z0z rfl ?_ rfl
  exact congrArg (fun v : Nat => [AV.pv (.int .i64 (v : Int))]) (h3.trans (by rw [c3o g2]; rfl)).symm
 try simp at hg4
 have g2 : i < s.length := by omega
 obtain ⟨e, he⟩ : ∃ e, s[i]? = some e := ⟨_, List.getElem?_eq_getElem (by omega)⟩
 refine x0x rfl v2v rfl rfl v3v rfl rfl ?_
 refine y5y rfl rfl ?_
 refine x3x rfl v3v rfl rfl ?_
 refine y5y rfl rfl ?_
 refine x1x rfl ?_
 refine y5y rfl rfl ?_
 refine z7z rfl rfl v3v rfl v8v rfl hp ?_
 refine y5y rfl rfl ?_
 refine x0x rfl v8v rfl rfl z1z rfl rfl ?_
 refine y5y rfl rfl ?_
 refine z3z (out := .agg (w0w p.ev)) rfl z1z rfl ?_
 refine y5y rfl rfl ?_
 refine x1x rfl ?_
 refine y5y rfl rfl ?_
 refine x1x rfl ?_
 refine y5y rfl rfl ?_
 refine z7z rfl rfl u6u rfl z1z rfl he ?_
 refine y5y rfl rfl ?_
 refine z3z (out := .agg (w0w e)) rfl z1z rfl ?_
 refine y5y rfl rfl ?_
 refine b1l rfl rfl (by intro a c h; cases h) (.inl rfl) (d8v _ _ _ _) ?_
 refine y8y rfl rfl ?_
 refine ⟨by kernel_rfl, ?_⟩
 refine x8x rfl (fun hc5 => ?_) (fun hc5 => ?_)
 ·try simp at hc5
  try have heq : p.ev = e := by simpa [a3q] using hc5
  refine x9x ?_
  refine hK2 _ _ ?_
  clear hK2 K2
  refine y6y ?_
  refine y4y x7x (by rfl) ?_
  refine x1x rfl ?_
  refine u1u (b := 1) rfl rfl (by omega) ?_
  refine x2x rfl ?_
  exact ⟨i + 1, ⟨⟨by omega, by omega, by rw [h3, c3l hp he heq]; omega⟩, by omega⟩, [], (Cov.cons (t := 5) rfl Cov.nil), (Cov.cons (t := 1) rfl (Cov.cons (t := 2) rfl Cov.nil)), HE.nil, (HE.same (id := 0) rfl HE.nil), rfl⟩
 try simp at hc5
 try have heq : ¬ p.ev = e := by simpa [a3q] using hc5
 refine v0v ?_
 refine hK1 _ _ ?_
 clear hK2 K2 hK1 K1
 refine x4x x7x (by rfl) ?_
 refine x1x rfl ?_
 refine x2x rfl ?_
 refine y0y ⟨.inr rfl, ?_⟩
 refine z0z rfl ?_ rfl
 exact congrArg (fun v : Nat => [AV.pv (.int .i64 (v : Int))]) (h3.trans (by rw [c3m hp he heq]; rfl)).symm
theorem b8u (c : Bool) (n : Nd) (hs : (a2u n).length ≤ 5000000) (hlen : n.lanes.length ≤ 1048576) : Meth Tryz.prog 183 1 [] [.agg (a1d c n)] [(0, (0, .dead))] (.ref 0 0) [(0, (0, .row 76 7 ((a2u n).map w0w)))] := by
 refine u8u x7x (fn := Tryz.f183) (by kernel_rfl) (by kernel_rfl) rfl (O0 := [.ref 0 0]) 1 3 (Nat.le_of_ble_eq_true rfl) (by rfl) (by repeat (first | exact BndH.nil | refine BndH.dead ?_)) (by repeat (first | exact BndH.nil | refine BndH.row (u3u fun _ => rfl) ?_)) (by rfl) fun γ => ?_
 show Ex Tryz.prog _ _ [(0, .agg (a1d c n))] [(0, ((γ 0), .dead)), (3, (0, .dead)), (2, (0, .dead)), (1, (0, .dead))] _
 have hkl : n.kept.length ≤ 5000000 := by simp only [a2u, List.length_append] at hs; omega
 refine x4x x7x (by rfl) ?_
 refine v5v (id := 1) rfl rfl rfl ?_
 refine x2x rfl ?_
 refine x4x x7x (by rfl) ?_
 refine r4r (id := 0) u6u rfl z1z rfl ?_
 refine x0x rfl z5z rfl rfl u6u rfl rfl ?_
 refine x3x rfl u6u rfl rfl ?_
 refine s1s (zs := n.kept.map w0w) rfl rfl u6u rfl z1z rfl rfl rfl (by exact r9r (fun _ => rfl) _) rfl (by have hb56 : T76.bytes = 56 := rfl; rw [List.length_map, hb56]; omega) ?_
 refine x2x rfl ?_
 refine x5x fun K1 hK1 => ?_
 refine x4x x7x (by rfl) ?_
 refine x2x rfl ?_
 refine y6y ?_
 refine u4u (ι := Nat) (fun i γ1 => [(3, .ref 0 (γ1 0)), (4, .pv (.int .i64 (i : Int)))]) (fun i γ1 => [(0, ((γ1 0), .row 76 7 ((n.kept ++ (n.lanes.take i).flatMap b1t).map w0w))), (3, ((γ1 3), .dead))]) (fun i => i ≤ n.lanes.length) (fun i => n.lanes.length - i) (Cov.cons (t := 1) rfl Cov.nil) (HE.same (id := 1) rfl (HE.same (id := 2) rfl HE.nil)) 0 (by omega) [_, 0, 0, _] (Cov.cons (t := 3) rfl (Cov.cons (t := 4) rfl Cov.nil)) (HE.row rfl (by simp) (HE.kill rfl HE.nil)) rfl fun i γ1 hi => ?_
 try dsimp only [List.cons_append, List.nil_append]
 refine x5x fun K2 hK2 => ?_
 refine x4x x7x (by rfl) ?_
 refine x1x rfl ?_
 refine x0x rfl z5z rfl rfl w1w rfl rfl ?_
 refine x3x rfl w1w rfl rfl ?_
 refine u2u rfl w1w rfl ?_
 refine y3y rfl rfl rfl ?_
 refine x8x rfl (fun hc3 => ?_) (fun hc3 => ?_)
 rotate_left
 ·try simp at hc3
  obtain rfl : i = n.lanes.length := by omega
  refine v0v ?_
  refine hK1 _ _ ?_
  clear hK2 K2 hK1 K1
  refine x4x x7x (by rfl) ?_
  refine x1x rfl ?_
  refine x2x rfl ?_
  refine y0y ?_
  exact ⟨.inr rfl, [_], rfl, rfl, HE.row rfl (by rw [List.take_length]; rfl) HE.nil⟩
 try simp at hc3
 obtain ⟨p, hp⟩ : ∃ p, n.lanes[i]? = some p := ⟨_, List.getElem?_eq_getElem (by omega)⟩
 refine x9x ?_
 refine hK2 _ _ ?_
 clear hK2 K2
 refine x5x fun K4 hK4 => ?_
 refine y6y ?_
 refine x4x x7x (by rfl) ?_
 refine x2x rfl ?_
 refine y6y ?_
 refine u4u (ι := Nat) (fun j γ2 => [(3, .ref 0 (γ2 0)), (5, .pv (.int .i64 (j : Int)))]) (fun j γ2 => [(0, ((γ2 0), .row 76 7 ((n.kept ++ (n.lanes.take i).flatMap b1t ++ (p.done.take j).flatMap Pa.sends).map w0w))), (3, ((γ2 3), .dead))]) (fun j => j ≤ p.done.length) (fun j => p.done.length - j) (Cov.cons (t := 1) rfl (Cov.cons (t := 4) rfl Cov.nil)) (HE.same (id := 1) rfl (HE.same (id := 2) rfl HE.nil)) 0 (by omega) [_, 0, 0, _] (Cov.cons (t := 3) rfl (Cov.cons (t := 5) rfl Cov.nil)) (HE.row rfl (by simp) (HE.kill rfl HE.nil)) rfl fun j γ2 hi => ?_
 try dsimp only [List.cons_append, List.nil_append]
 refine x5x fun K5 hK5 => ?_
 refine x4x x7x (by rfl) ?_
 refine x1x rfl ?_
 refine x0x rfl z5z rfl rfl w1w rfl rfl ?_
 refine x3x rfl w1w rfl rfl ?_
 refine x1x rfl ?_
 refine z7z rfl rfl w1w rfl v2v rfl hp ?_
 refine x0x rfl v2v rfl rfl v3v rfl rfl ?_
 refine z3z rfl v3v rfl ?_
 refine u2u rfl v3v rfl ?_
 refine y3y rfl rfl rfl ?_
 refine x8x rfl (fun hc6 => ?_) (fun hc6 => ?_)
 rotate_left
 ·try simp at hc6
  obtain rfl : j = p.done.length := by omega
  refine v0v ?_
  refine hK4 _ _ ?_
  clear hK5 K5 hK4 K4
  refine y4y x7x (by rfl) ?_
  refine x1x rfl ?_
  refine y3y rfl rfl rfl ?_
  refine x2x rfl ?_
  exact ⟨i + 1, ⟨by omega, by omega⟩, [_, 0, 0, _], (Cov.cons (t := 3) rfl (Cov.cons' (t := 4) rfl (by rw [v6v (by omega) (by omega)]; rfl) Cov.nil)), (Cov.cons (t := 1) rfl Cov.nil), (HE.row rfl (by simp only [a2v hp, List.append_assoc, b1t, List.take_length]) (HE.kill rfl HE.nil)), (HE.same (id := 1) rfl (HE.same (id := 2) rfl HE.nil)), rfl⟩
 try simp at hc6
 obtain ⟨q, hq⟩ : ∃ q, p.done[j]? = some q := ⟨_, List.getElem?_eq_getElem (by omega)⟩
 have hsp := c3j hp hq
 refine x9x ?_
 refine hK5 _ _ ?_
 clear hK5 K5
 refine x5x fun K7 hK7 => ?_
 refine y6y ?_
 refine y4y x7x (by rfl) ?_
 refine x1x rfl ?_
 refine x0x rfl z5z rfl rfl w1w rfl rfl ?_
 refine x3x rfl w1w rfl rfl ?_
 refine x1x rfl ?_
 refine z7z rfl rfl w1w rfl v2v rfl hp ?_
 refine x0x rfl v2v rfl rfl v3v rfl rfl ?_
 refine z3z rfl v3v rfl ?_
 refine x1x rfl ?_
 refine z7z rfl rfl v3v rfl v8v rfl hq ?_
 refine x0x rfl v8v rfl rfl u6u rfl rfl ?_
 refine z3z rfl u6u rfl ?_
 refine s1s (zs := (n.kept ++ (n.lanes.take i).flatMap b1t ++ (p.done.take j).flatMap Pa.sends ++ q.sends).map w0w) rfl rfl u6u rfl z1z rfl rfl rfl (by exact r9r (fun _ => rfl) _) (a4n _ _ _) (by have hb56 : T76.bytes = 56 := rfl; rw [List.length_map, hb56]; omega) ?_
 refine x2x rfl ?_
 refine hK7 _ _ ?_
 clear hK7 K7
 refine w9w 23 rfl fun hlen2 => ?_
 refine y4y x7x (by rfl) ?_
 refine x1x rfl ?_
 refine y3y rfl rfl rfl ?_
 refine x2x rfl ?_
 exact ⟨j + 1, ⟨by omega, by omega⟩, [_, 0, 0, _], (Cov.cons (t := 3) rfl (Cov.cons' (t := 5) rfl (by rw [v6v (by omega) (by omega)]; rfl) Cov.nil)), (Cov.cons (t := 1) rfl (Cov.cons (t := 4) rfl Cov.nil)), (HE.row rfl (by simp only [a2v hq, List.append_assoc]) (HE.kill rfl HE.nil)), (HE.same (id := 1) rfl (HE.same (id := 2) rfl HE.nil)), rfl⟩
end
section
theorem a3b (c : Bool) (l : List Ev) (hl : l.length ≤ 10000000) : a0o Tryz.prog 114 [a0i c l] (a0i true (q8q l)) := by
 refine z4z x7x (fn := Tryz.f114) (by kernel_rfl) (by kernel_rfl) rfl (outs := [a0i true (q8q l)]) (by rfl) (Nat.le_of_ble_eq_true rfl) 3 ?_
 refine x4x x7x (by rfl) ?_
 refine x2x rfl ?_
 refine x4x x7x (by rfl) ?_
 refine r4r (id := 0) u6u rfl z1z rfl ?_
 refine x2x rfl ?_
 refine x5x fun K1 hK1 => ?_
 refine x4x x7x (by rfl) ?_
 refine x2x rfl ?_
 refine y6y ?_
 refine u4u (ι := Nat) (fun i γ1 => [(3, .ref 0 (γ1 0)), (4, .pv (.int .i64 (i : Int)))]) (fun i γ1 => [(0, ((γ1 0), .row 76 7 ((q8q (l.take i)).map w0w))), (1, ((γ1 1), .dead)), (2, ((γ1 2), .dead))]) (fun i => i ≤ l.length) (fun i => l.length - i) (Cov.cons (t := 0) rfl Cov.nil) HE.nil 0 (by omega) [_, _, _] (Cov.cons (t := 3) rfl (Cov.cons (t := 4) rfl Cov.nil)) (HE.row rfl (by rw [List.take_zero]; rfl) (HE.kill rfl (HE.kill rfl HE.nil))) rfl fun i γ1 hi => ?_
 try dsimp only [List.cons_append, List.nil_append]
 refine x5x fun K2 hK2 => ?_
 refine x4x x7x (by rfl) ?_
 refine x1x rfl ?_
 refine x1x rfl ?_
 refine u2u rfl u6u rfl ?_
 refine y3y rfl rfl rfl ?_
 refine x8x rfl (fun hc3 => ?_) (fun hc3 => ?_)
 rotate_left
 ·try simp at hc3
  obtain rfl : i = l.length := by omega
  refine v0v ?_
  refine hK1 _ _ ?_
  clear hK2 K2 hK1 K1
  refine x4x x7x (by rfl) ?_
  refine x1x rfl ?_
  refine x2x rfl ?_
  refine y0y ⟨.inr rfl, ?_⟩
  refine c8z rfl rfl (fun _ => rfl) ?_
  rw [List.take_length]
 try simp at hc3
 obtain ⟨x, hx⟩ : ∃ x, l[i]? = some x := ⟨_, List.getElem?_eq_getElem (by omega)⟩
 have hol : (q8q (l.take i)).length ≤ 10000000 := Nat.le_trans (b6z _) (by rw [List.length_take]; omega)
 have hss := b2u (l.take i)
 refine x9x ?_
 refine hK2 _ _ ?_
 clear hK2 K2
 refine x5x fun K4 hK4 => ?_
 refine y6y ?_
 refine x4x x7x (by rfl) ?_
 refine x1x rfl ?_
 refine a0v rfl u6u rfl rfl (by exact List.length_map _) ?_
 refine x2x rfl ?_
 refine a9l (ι := Nat) (fun k γ2 => [(5, .pv (.int .i64 (k : Int)))]) (fun k γ2 => []) (fun k => k ≤ (q8q (l.take i)).length ∧ (∀ (j : Nat) y, k ≤ j → (q8q (l.take i))[j]? = some y → a2b x y = true) ∧ (∀ y, 0 < k → (q8q (l.take i))[k - 1]? = some y → a2b x y = false)) (Cov.cons (t := 0) rfl (Cov.cons (t := 3) rfl (Cov.cons (t := 4) rfl Cov.nil))) (HE.same (id := 0) rfl (HE.same (id := 1) rfl (HE.same (id := 2) rfl HE.nil))) ?_ fun k γ2 hi => ?_
 ·refine y6y ?_
  refine u4u (ι := Nat) (fun k γ3 => [(5, .pv (.int .i64 (k : Int)))]) (fun k γ3 => []) (fun k => k ≤ (q8q (l.take i)).length ∧ (∀ (j : Nat) y, k ≤ j → (q8q (l.take i))[j]? = some y → a2b x y = true)) (fun k => k) (Cov.cons (t := 0) rfl (Cov.cons (t := 3) rfl (Cov.cons (t := 4) rfl Cov.nil))) (HE.same (id := 0) rfl (HE.same (id := 1) rfl (HE.same (id := 2) rfl HE.nil))) (q8q (l.take i)).length ⟨Nat.le_refl _, fun j y hj hy => by have := (List.getElem?_eq_some_iff.1 hy).1; omega⟩ [] (Cov.cons (t := 5) rfl Cov.nil) HE.nil rfl fun k γ3 hi => ?_
  try dsimp only [List.cons_append, List.nil_append]
  obtain ⟨k1, k2⟩ := hi
  refine x5x fun K5 hK5 => ?_
  refine p6p x7x r2r (by rfl) ?_
  refine x1x rfl ?_
  refine y3y rfl rfl rfl ?_
  refine x1x rfl ?_
  refine s9s rfl rfl (fun hg6 => ?_) (fun hg6 => ?_)
  rotate_left
  ·try simp at hg6
   have k0 : k = 0 := by omega
   refine x6x rfl rfl ?_
   refine x6x rfl rfl ?_
   refine x6x rfl rfl ?_
   refine x6x rfl rfl ?_
   refine x6x rfl rfl ?_
   refine x6x rfl rfl ?_
   refine x6x rfl rfl ?_
   refine x6x rfl rfl ?_
   refine x6x rfl rfl ?_
   refine y2y rfl rfl ?_
   refine ⟨by kernel_rfl, ?_⟩
   refine x8x rfl (fun hc8 => ?_) (fun hc8 => ?_)
   ·simp at hc8
   try simp at hc8
   try have hlt := hc8
   refine v0v ?_
   exact ⟨k, ⟨k1, k2, fun y2 h0 h2 => by omega⟩, [], (Cov.cons (t := 5) rfl Cov.nil), (Cov.cons (t := 0) rfl (Cov.cons (t := 3) rfl (Cov.cons (t := 4) rfl Cov.nil))), HE.nil, (HE.same (id := 0) rfl (HE.same (id := 1) rfl (HE.same (id := 2) rfl HE.nil))), rfl⟩
  try simp at hg6
  have k0 : 0 < k := by omega
  obtain ⟨y, hy⟩ : ∃ y, (q8q (l.take i))[k - 1]? = some y := ⟨_, List.getElem?_eq_getElem (by omega)⟩
  refine x1x rfl ?_
  refine y5y rfl rfl ?_
  refine x1x rfl ?_
  refine y5y rfl rfl ?_
  refine z7z rfl rfl u6u rfl z1z rfl hx ?_
  refine y5y rfl rfl ?_
  refine z6z rfl z1z rfl rfl ?_
  refine y5y rfl rfl ?_
  refine x1x rfl ?_
  refine y5y rfl rfl ?_
  refine x1x rfl ?_
  refine y5y rfl rfl ?_
  refine a0k (b := 1) rfl rfl (by omega) (by omega) ?_
  refine y5y rfl rfl ?_
  refine w7w (j := k - 1) rfl rfl u6u rfl z1z rfl rfl (by omega) ?_
  refine y5y rfl rfl ?_
  refine q6q rfl z1z rfl hy rfl rfl ?_
  refine y5y rfl rfl ?_
  refine y7y rfl rfl rfl (a4u ..) ?_
  refine y8y rfl rfl ?_
  refine ⟨by kernel_rfl, ?_⟩
  refine x8x rfl (fun hc7 => ?_) (fun hc7 => ?_)
  rotate_left
  ·try simp at hc7
   try have hlt := hc7
   refine v0v ?_
   exact ⟨k, ⟨k1, k2, fun y2 h0 h2 => by (rw [hy] at h2; cases h2; exact hlt)⟩, [], (Cov.cons (t := 5) rfl Cov.nil), (Cov.cons (t := 0) rfl (Cov.cons (t := 3) rfl (Cov.cons (t := 4) rfl Cov.nil))), HE.nil, (HE.same (id := 0) rfl (HE.same (id := 1) rfl (HE.same (id := 2) rfl HE.nil))), rfl⟩
  try simp at hc7
  try have hlt := hc7
  refine x9x ?_
  refine hK5 _ _ ?_
  clear hK5 K5
  refine y6y ?_
  refine y4y x7x (by rfl) ?_
  refine x1x rfl ?_
  refine a0k (b := 1) rfl rfl (by omega) (by omega) ?_
  refine x2x rfl ?_
  exact ⟨k - 1, ⟨⟨by omega, fun j y2 hj hy2 => by by_cases hjk : j = k - 1; (subst hjk; rw [hy] at hy2; cases hy2; exact hlt); exact k2 j y2 (by omega) hy2⟩, by omega⟩, [], (Cov.cons (t := 5) rfl Cov.nil), (Cov.cons (t := 0) rfl (Cov.cons (t := 3) rfl (Cov.cons (t := 4) rfl Cov.nil))), HE.nil, (HE.same (id := 0) rfl (HE.same (id := 1) rfl (HE.same (id := 2) rfl HE.nil))), rfl⟩
 ·try dsimp only [List.cons_append, List.nil_append]
  obtain ⟨c1, c2, c3⟩ := hi
  refine x5x fun K9 hK9 => ?_
  refine p6p x7x r2r (by rfl) ?_
  refine x1x rfl ?_
  refine y3y rfl rfl rfl ?_
  refine x1x rfl ?_
  refine s9s rfl rfl (fun hg10 => ?_) (fun hg10 => ?_)
  rotate_left
  ·try simp at hg10
   have k0 : k = 0 := by omega
   refine x6x rfl rfl ?_
   refine x6x rfl rfl ?_
   refine x6x rfl rfl ?_
   refine x6x rfl rfl ?_
   refine x6x rfl rfl ?_
   refine x6x rfl rfl ?_
   refine x6x rfl rfl ?_
   refine x6x rfl rfl ?_
   refine x6x rfl rfl ?_
   refine y2y rfl rfl ?_
   refine ⟨by kernel_rfl, ?_⟩
   refine x8x rfl (fun hc16 => ?_) (fun hc16 => ?_)
   ·simp at hc16
   try simp at hc16
   try have hyx : ¬ y = x := by simpa [a3q] using hc16
   have hin : q8q (l.take (i + 1)) = (q8q (l.take i)).take k ++ x :: (q8q (l.take i)).drop k := by rw [b1u hx]; exact d0u c3g hss c2 (fun y2 h0 h2 => ⟨c3 y2 h0 h2, by omega⟩) c1
   refine x9x ?_
   refine hK9 _ _ ?_
   clear hK9 K9
   refine x4x x7x (by rfl) ?_
   refine x1x rfl ?_
   refine x1x rfl ?_
   refine x1x rfl ?_
   refine z7z rfl rfl u6u rfl z1z rfl hx ?_
   refine z6z rfl z1z rfl rfl ?_
   refine r6r (id := 1) u6u rfl z1z rfl rfl rfl rfl rfl rfl ?_
   refine r8r (zs := (q8q (l.take i) ++ [x]).map w0w) rfl rfl u6u rfl z1z rfl rfl rfl rfl (by rfl) (a0j _ _ _) (by have hb56 : T76.bytes = 56 := rfl; rw [List.length_map, hb56]; simp only [List.length_append, List.length_cons, List.length_nil]; omega) ?_
   refine x2x rfl ?_
   refine x5x fun K17 hK17 => ?_
   refine x4x x7x (by rfl) ?_
   refine x1x rfl ?_
   refine a0v rfl u6u rfl rfl (by exact List.length_map _) ?_
   refine a0k (b := 1) rfl rfl (by (simp; done)) (by (simp; omega)) ?_
   refine x2x rfl ?_
   refine y6y ?_
   refine u4u (ι := Nat × Ev) (fun q γ5 => [(6, .pv (.int .i64 (q.1 : Int)))]) (fun q γ5 => [(0, ((γ1 0 + 1), .row 76 7 (((q8q (l.take i)).take q.1 ++ q.2 :: (q8q (l.take i)).drop q.1).map w0w)))]) (fun q => k ≤ q.1 ∧ q.1 ≤ (q8q (l.take i)).length) (fun q => q.1) (Cov.cons (t := 0) rfl (Cov.cons (t := 3) rfl (Cov.cons (t := 4) rfl (Cov.cons (t := 5) rfl Cov.nil)))) (HE.same (id := 1) rfl (HE.same (id := 2) rfl HE.nil)) ((q8q (l.take i)).length, x) ⟨c1, Nat.le_refl _⟩ [] (Cov.cons' (t := 6) rfl (by simp) Cov.nil) (HE.row rfl (by rw [List.take_length, List.drop_length]) HE.nil) rfl fun q γ5 hi => ?_
   try dsimp only [List.cons_append, List.nil_append]
   obtain ⟨m, u⟩ := q
   obtain ⟨m1, m2⟩ := hi
   dsimp only at m1 m2 ⊢
   refine x5x fun K18 hK18 => ?_
   refine x4x x7x (by rfl) ?_
   refine x1x rfl ?_
   refine x1x rfl ?_
   refine y3y rfl rfl rfl ?_
   refine x8x rfl (fun hc19 => ?_) (fun hc19 => ?_)
   rotate_left
   ·try simp at hc19
    obtain rfl : k = m := by omega
    refine v0v ?_
    refine hK17 _ _ ?_
    clear hK18 K18 hK17 K17
    refine y4y x7x (by rfl) ?_
    refine x1x rfl ?_
    refine x1x rfl ?_
    refine x1x rfl ?_
    refine x1x rfl ?_
    refine z7z rfl rfl u6u rfl z1z rfl hx ?_
    refine z6z rfl z1z rfl rfl ?_
    refine w7w (j := k) rfl rfl u6u rfl z1z rfl rfl (a0e (c3q c1)) ?_
    refine s8s (el' := x) rfl rfl z1z rfl rfl rfl (c3q c1) rfl (a0t _) rfl rfl ?_
    refine hK4 _ _ ?_
    clear hK4 K4
    refine y4y x7x (by rfl) ?_
    refine x1x rfl ?_
    refine u1u (b := 1) rfl rfl (by omega) ?_
    refine x2x rfl ?_
    exact ⟨i + 1, ⟨by omega, by omega⟩, [_, _, _], (Cov.cons (t := 3) rfl (Cov.cons (t := 4) rfl Cov.nil)), (Cov.cons (t := 0) rfl Cov.nil), (HE.row rfl (by rw [hin, d0v c1]) (HE.kill rfl (HE.kill rfl HE.nil))), HE.nil, rfl⟩
   try simp at hc19
   obtain ⟨z, hz⟩ : ∃ z, (q8q (l.take i))[m - 1]? = some z := ⟨_, List.getElem?_eq_getElem (by omega)⟩
   refine x9x ?_
   refine hK18 _ _ ?_
   clear hK18 K18
   refine x5x fun K20 hK20 => ?_
   refine y6y ?_
   refine y4y x7x (by rfl) ?_
   refine x1x rfl ?_
   refine x1x rfl ?_
   refine x1x rfl ?_
   refine x1x rfl ?_
   refine a0k (b := 1) rfl rfl (by omega) (by omega) ?_
   refine w7w (j := m - 1) rfl rfl u6u rfl z1z rfl rfl (a0e (c6m m2 (by omega) hz)) ?_
   refine q6q rfl z1z rfl (c6m m2 (by omega) hz) rfl rfl ?_
   refine w7w (j := m) rfl rfl u6u rfl z1z rfl rfl (a0e (c3q m2)) ?_
   refine s8s (el' := z) rfl rfl z1z rfl rfl rfl (c3q m2) rfl (a0t _) rfl rfl ?_
   refine hK20 _ _ ?_
   clear hK20 K20
   refine y4y x7x (by rfl) ?_
   refine x1x rfl ?_
   refine a0k (b := 1) rfl rfl (by omega) (by omega) ?_
   refine x2x rfl ?_
   exact ⟨(m - 1, z), ⟨⟨by dsimp only; omega, by dsimp only; omega⟩, (by dsimp only; omega)⟩, [], (Cov.cons (t := 6) rfl Cov.nil), (Cov.cons (t := 0) rfl (Cov.cons (t := 3) rfl (Cov.cons (t := 4) rfl (Cov.cons (t := 5) rfl Cov.nil)))), (HE.row rfl (by rw [d4h m2 (by omega) hz]) HE.nil), (HE.same (id := 1) rfl (HE.same (id := 2) rfl HE.nil)), rfl⟩
  try simp at hg10
  have k0 : 0 < k := by omega
  obtain ⟨y, hy⟩ : ∃ y, (q8q (l.take i))[k - 1]? = some y := ⟨_, List.getElem?_eq_getElem (by omega)⟩
  refine x1x rfl ?_
  refine y5y rfl rfl ?_
  refine x1x rfl ?_
  refine y5y rfl rfl ?_
  refine a0k (b := 1) rfl rfl (by omega) (by omega) ?_
  refine y5y rfl rfl ?_
  refine w7w (j := k - 1) rfl rfl u6u rfl z1z rfl rfl (by omega) ?_
  refine y5y rfl rfl ?_
  refine q6q rfl z1z rfl hy rfl rfl ?_
  refine y5y rfl rfl ?_
  refine x1x rfl ?_
  refine y5y rfl rfl ?_
  refine x1x rfl ?_
  refine y5y rfl rfl ?_
  refine z7z rfl rfl u6u rfl z1z rfl hx ?_
  refine y5y rfl rfl ?_
  refine z6z rfl z1z rfl rfl ?_
  refine y5y rfl rfl ?_
  refine b1l rfl rfl (by intro a c h; cases h) (.inl rfl) (d8v _ _ _ _) ?_
  refine y8y rfl rfl ?_
  refine ⟨by kernel_rfl, ?_⟩
  refine x8x rfl (fun hc11 => ?_) (fun hc11 => ?_)
  ·try simp at hc11
   have hyx : y = x := by simpa [a3q] using hc11
   have hsk : q8q (l.take (i + 1)) = q8q (l.take i) := by rw [b1u hx]; exact d5s c3g hss (List.mem_of_getElem? (hyx ▸ hy))
   refine v0v ?_
   refine hK4 _ _ ?_
   clear hK9 K9 hK4 K4
   refine y4y x7x (by rfl) ?_
   refine x1x rfl ?_
   refine u1u (b := 1) rfl rfl (by omega) ?_
   refine x2x rfl ?_
   exact ⟨i + 1, ⟨by omega, by omega⟩, [_, _, _], (Cov.cons (t := 3) rfl (Cov.cons (t := 4) rfl Cov.nil)), (Cov.cons (t := 0) rfl Cov.nil), (HE.row rfl (by rw [hsk]) (HE.kill rfl (HE.kill rfl HE.nil))), HE.nil, rfl⟩
  try simp at hc11
  try have hyx : ¬ y = x := by simpa [a3q] using hc11
  have hin : q8q (l.take (i + 1)) = (q8q (l.take i)).take k ++ x :: (q8q (l.take i)).drop k := by rw [b1u hx]; exact d0u c3g hss c2 (fun y2 h0 h2 => ⟨c3 y2 h0 h2, by (rw [hy] at h2; cases h2; exact hyx)⟩) c1
  refine x9x ?_
  refine hK9 _ _ ?_
  clear hK9 K9
  refine x4x x7x (by rfl) ?_
  refine x1x rfl ?_
  refine x1x rfl ?_
  refine x1x rfl ?_
  refine z7z rfl rfl u6u rfl z1z rfl hx ?_
  refine z6z rfl z1z rfl rfl ?_
  refine r6r (id := 1) u6u rfl z1z rfl rfl rfl rfl rfl rfl ?_
  refine r8r (zs := (q8q (l.take i) ++ [x]).map w0w) rfl rfl u6u rfl z1z rfl rfl rfl rfl (by rfl) (a0j _ _ _) (by have hb56 : T76.bytes = 56 := rfl; rw [List.length_map, hb56]; simp only [List.length_append, List.length_cons, List.length_nil]; omega) ?_
  refine x2x rfl ?_
  refine x5x fun K12 hK12 => ?_
  refine x4x x7x (by rfl) ?_
  refine x1x rfl ?_
  refine a0v rfl u6u rfl rfl (by exact List.length_map _) ?_
  refine a0k (b := 1) rfl rfl (by (simp; done)) (by (simp; omega)) ?_
  refine x2x rfl ?_
  refine y6y ?_
  refine u4u (ι := Nat × Ev) (fun q γ4 => [(6, .pv (.int .i64 (q.1 : Int)))]) (fun q γ4 => [(0, ((γ1 0 + 1), .row 76 7 (((q8q (l.take i)).take q.1 ++ q.2 :: (q8q (l.take i)).drop q.1).map w0w)))]) (fun q => k ≤ q.1 ∧ q.1 ≤ (q8q (l.take i)).length) (fun q => q.1) (Cov.cons (t := 0) rfl (Cov.cons (t := 3) rfl (Cov.cons (t := 4) rfl (Cov.cons (t := 5) rfl Cov.nil)))) (HE.same (id := 1) rfl (HE.same (id := 2) rfl HE.nil)) ((q8q (l.take i)).length, x) ⟨c1, Nat.le_refl _⟩ [] (Cov.cons' (t := 6) rfl (by simp) Cov.nil) (HE.row rfl (by rw [List.take_length, List.drop_length]) HE.nil) rfl fun q γ4 hi => ?_
  try dsimp only [List.cons_append, List.nil_append]
  obtain ⟨m, u⟩ := q
  obtain ⟨m1, m2⟩ := hi
  dsimp only at m1 m2 ⊢
  refine x5x fun K13 hK13 => ?_
  refine x4x x7x (by rfl) ?_
  refine x1x rfl ?_
  refine x1x rfl ?_
  refine y3y rfl rfl rfl ?_
  refine x8x rfl (fun hc14 => ?_) (fun hc14 => ?_)
  rotate_left
  ·try simp at hc14
   obtain rfl : k = m := by omega
   refine v0v ?_
   refine hK12 _ _ ?_
   clear hK13 K13 hK12 K12
   refine y4y x7x (by rfl) ?_
   refine x1x rfl ?_
   refine x1x rfl ?_
   refine x1x rfl ?_
   refine x1x rfl ?_
   refine z7z rfl rfl u6u rfl z1z rfl hx ?_
   refine z6z rfl z1z rfl rfl ?_
   refine w7w (j := k) rfl rfl u6u rfl z1z rfl rfl (a0e (c3q c1)) ?_
   refine s8s (el' := x) rfl rfl z1z rfl rfl rfl (c3q c1) rfl (a0t _) rfl rfl ?_
   refine hK4 _ _ ?_
   clear hK4 K4
   refine y4y x7x (by rfl) ?_
   refine x1x rfl ?_
   refine u1u (b := 1) rfl rfl (by omega) ?_
   refine x2x rfl ?_
   exact ⟨i + 1, ⟨by omega, by omega⟩, [_, _, _], (Cov.cons (t := 3) rfl (Cov.cons (t := 4) rfl Cov.nil)), (Cov.cons (t := 0) rfl Cov.nil), (HE.row rfl (by rw [hin, d0v c1]) (HE.kill rfl (HE.kill rfl HE.nil))), HE.nil, rfl⟩
  try simp at hc14
  obtain ⟨z, hz⟩ : ∃ z, (q8q (l.take i))[m - 1]? = some z := ⟨_, List.getElem?_eq_getElem (by omega)⟩
  refine x9x ?_
  refine hK13 _ _ ?_
  clear hK13 K13
  refine x5x fun K15 hK15 => ?_
  refine y6y ?_
  refine y4y x7x (by rfl) ?_
  refine x1x rfl ?_
  refine x1x rfl ?_
  refine x1x rfl ?_
  refine x1x rfl ?_
  refine a0k (b := 1) rfl rfl (by omega) (by omega) ?_
  refine w7w (j := m - 1) rfl rfl u6u rfl z1z rfl rfl (a0e (c6m m2 (by omega) hz)) ?_
  refine q6q rfl z1z rfl (c6m m2 (by omega) hz) rfl rfl ?_
  refine w7w (j := m) rfl rfl u6u rfl z1z rfl rfl (a0e (c3q m2)) ?_
  refine s8s (el' := z) rfl rfl z1z rfl rfl rfl (c3q m2) rfl (a0t _) rfl rfl ?_
  refine hK15 _ _ ?_
  clear hK15 K15
  refine y4y x7x (by rfl) ?_
  refine x1x rfl ?_
  refine a0k (b := 1) rfl rfl (by omega) (by omega) ?_
  refine x2x rfl ?_
  exact ⟨(m - 1, z), ⟨⟨by dsimp only; omega, by dsimp only; omega⟩, (by dsimp only; omega)⟩, [], (Cov.cons (t := 6) rfl Cov.nil), (Cov.cons (t := 0) rfl (Cov.cons (t := 3) rfl (Cov.cons (t := 4) rfl (Cov.cons (t := 5) rfl Cov.nil)))), (HE.row rfl (by rw [d4h m2 (by omega) hz]) HE.nil), (HE.same (id := 1) rfl (HE.same (id := 2) rfl HE.nil)), rfl⟩
end
section
theorem a7e (c : Bool) (n : Nd) (proc : Int) (hs : (a2u n).length + (a0q n 3).length ≤ 5000000) (hlen : n.lanes.length ≤ 1048576) (hv3 : n.views.length = 3) : a0o Tryz.prog 144 [.agg (a1d c n), .pv (.int .i64 proc)] (a0i true (a0u n proc)) := by
 refine z4z x7x (fn := Tryz.f144) (by kernel_rfl) (by kernel_rfl) rfl (outs := [a0i true (a0u n proc)]) (by rfl) (Nat.le_of_ble_eq_true rfl) 6 ?_
 have hla : (a2u n ++ a0q n 3).length = (a2u n).length + (a0q n 3).length := List.length_append
 refine x4x x7x (by rfl) ?_
 refine v5v (id := 0) rfl rfl rfl ?_
 refine x2x rfl ?_
 refine x4x x7x (by rfl) ?_
 refine y1y rfl z5z rfl rfl rfl ?_
 refine v4v [5] [_] (b8u c n (by omega) hlen) rfl rfl rfl (by decide) rfl rfl (by repeat (first | exact InH.nil | refine InH.cons rfl ?_)) (by (simp only [pI, List.map_cons, List.map_nil, z8z, z9z, gl, nx, p4p, Nat.beq, Nat.add_eq, List.getD_cons_zero, List.getD_cons_succ, List.getD_nil, Bool.or_false, Bool.false_or, Bool.true_or, Bool.or_true, Nat.add_zero, Nat.zero_add]; rfl)) (by (simp only [pI, List.map_cons, List.map_nil, z8z, z9z, gl, nx, p4p, Nat.beq, Nat.add_eq, List.getD_cons_zero, List.getD_cons_succ, List.getD_nil, Bool.or_false, Bool.false_or, Bool.true_or, Bool.or_true, Nat.add_zero, Nat.zero_add]; rfl)) ?_
 refine x2x rfl ?_
 refine x5x fun K1 hK1 => ?_
 refine x4x x7x (by rfl) ?_
 refine x2x rfl ?_
 refine y6y ?_
 refine u4u (ι := Nat) (fun i γ1 => [(5, .ref 5 (γ1 5)), (6, .pv (.int .i64 (i : Int)))]) (fun i γ1 => [(5, ((γ1 5), .row 76 7 ((a2u n ++ a0q n i).map w0w))), (1, ((γ1 1), .dead))]) (fun i => i ≤ 3) (fun i => 3 - i) (Cov.cons (t := 1) rfl (Cov.cons (t := 2) rfl Cov.nil)) (HE.same (id := 0) rfl (HE.same (id := 2) rfl (HE.same (id := 3) rfl (HE.same (id := 4) rfl HE.nil)))) 0 (by omega) [0, _, 0, 0, 0, _] (Cov.cons (t := 5) rfl (Cov.cons (t := 6) rfl Cov.nil)) (HE.row rfl (by simp [a0q]) (HE.kill rfl HE.nil)) rfl fun i γ1 hi => ?_
 try dsimp only [List.cons_append, List.nil_append]
 refine x5x fun K2 hK2 => ?_
 refine x4x x7x (by rfl) ?_
 refine x1x rfl ?_
 refine x0x rfl z5z rfl rfl p8p rfl rfl ?_
 refine x3x rfl p8p rfl rfl ?_
 refine u2u rfl p8p rfl ?_
 refine y3y rfl rfl rfl ?_
 refine x8x rfl (fun hc3 => ?_) (fun hc3 => ?_)
 ·try simp at hc3
  obtain ⟨v, hv⟩ : ∃ v, n.views[i]? = some v := ⟨_, List.getElem?_eq_getElem (by omega)⟩
  have hg : n.views.getD i vi0 = v := by rw [List.getD_eq_getElem?_getD, hv]; rfl
  have hol := c3k n (i := i + 1) (by omega)
  rw [a1k] at hol
  refine x9x ?_
  refine hK2 _ _ ?_
  clear hK2 K2
  refine x5x fun K4 hK4 => ?_
  refine y6y ?_
  refine x4x x7x (by rfl) ?_
  refine x1x rfl ?_
  refine x0x rfl z5z rfl rfl y9y rfl rfl ?_
  refine x3x rfl y9y rfl rfl ?_
  refine y3y rfl rfl rfl ?_
  refine x8x rfl (fun hc5 => ?_) (fun hc5 => ?_)
  rotate_left
  ·try simp at hc5
   have hve : b3y n i = [] := by rw [b3y, if_pos (by exact hc5)]
   refine x9x ?_
   refine hK4 _ _ ?_
   clear hK4 K4
   refine y4y x7x (by rfl) ?_
   refine x1x rfl ?_
   refine y3y rfl rfl rfl ?_
   refine x2x rfl ?_
   exact ⟨i + 1, ⟨by omega, by omega⟩, [0, _, 0, 0, 0, _], (Cov.cons (t := 5) rfl (Cov.cons' (t := 6) rfl (by rw [v6v (by omega) (by omega)]; rfl) Cov.nil)), (Cov.cons (t := 1) rfl (Cov.cons (t := 2) rfl Cov.nil)), (HE.row rfl (by rw [a1k, hve]; simp) (HE.kill rfl HE.nil)), (HE.same (id := 0) rfl (HE.same (id := 2) rfl (HE.same (id := 3) rfl (HE.same (id := 4) rfl HE.nil)))), rfl⟩
  try simp at hc5
  have hve : b3y n i = v.events := by rw [b3y, if_neg (by exact hc5), hg]
  rw [hve] at hol
  simp only [List.length_append] at hol
  refine y4y x7x (by rfl) ?_
  refine x1x rfl ?_
  refine x0x rfl z5z rfl rfl p8p rfl rfl ?_
  refine x3x rfl p8p rfl rfl ?_
  refine x1x rfl ?_
  refine z7z rfl rfl p8p rfl w5w rfl hv ?_
  refine x0x rfl w5w rfl rfl u6u rfl rfl ?_
  refine z3z rfl u6u rfl ?_
  refine s1s (zs := (a2u n ++ a0q n i ++ v.events).map w0w) rfl rfl u6u rfl z1z rfl rfl rfl (by exact r9r (fun _ => rfl) _) (a4n _ _ _) (by have hb56 : T76.bytes = 56 := rfl; rw [List.length_map, hb56]; simp only [List.length_append, List.length_cons, List.length_nil]; omega) ?_
  refine x2x rfl ?_
  refine hK4 _ _ ?_
  clear hK4 K4
  refine y4y x7x (by rfl) ?_
  refine x1x rfl ?_
  refine y3y rfl rfl rfl ?_
  refine x2x rfl ?_
  exact ⟨i + 1, ⟨by omega, by omega⟩, [0, _, 0, 0, 0, _], (Cov.cons (t := 5) rfl (Cov.cons' (t := 6) rfl (by rw [v6v (by omega) (by omega)]; rfl) Cov.nil)), (Cov.cons (t := 1) rfl (Cov.cons (t := 2) rfl Cov.nil)), (HE.row rfl (by rw [a1k, hve]; simp) (HE.kill rfl HE.nil)), (HE.same (id := 0) rfl (HE.same (id := 2) rfl (HE.same (id := 3) rfl (HE.same (id := 4) rfl HE.nil)))), rfl⟩
 try simp at hc3
 obtain rfl : i = 3 := by omega
 have hall : (a2u n ++ a0q n 3).length ≤ 5000000 := by rw [List.length_append]; omega
 refine v0v ?_
 refine hK1 _ _ ?_
 clear hK2 K2 hK1 K1
 refine a0y 5 rfl rfl (fun _ => rfl) ?_
 refine x4x x7x (by rfl) ?_
 refine r4r (id := 2) u6u rfl z1z rfl ?_
 refine x2x rfl ?_
 refine x5x fun K6 hK6 => ?_
 refine x4x x7x (by rfl) ?_
 refine x2x rfl ?_
 refine y6y ?_
 refine u4u (ι := Nat) (fun j γ2 => [(7, .ref 2 (γ2 2)), (8, .pv (.int .i64 (j : Int)))]) (fun j γ2 => [(2, ((γ2 2), .row 76 7 ((((a2u n ++ a0q n 3).take j).filter (a5x proc n.g)).map w0w))), (3, ((γ2 3), .dead)), (4, ((γ2 4), .dead))]) (fun j => j ≤ (a2u n ++ a0q n 3).length) (fun j => (a2u n ++ a0q n 3).length - j) (Cov.cons (t := 1) rfl (Cov.cons (t := 2) rfl (Cov.cons (t := 5) rfl Cov.nil))) (HE.same (id := 0) rfl (HE.same (id := 1) rfl (HE.same (id := 5) rfl HE.nil))) 0 (by omega) [0, 0, _, _, _] (Cov.cons (t := 7) rfl (Cov.cons (t := 8) rfl Cov.nil)) (HE.row rfl (by rw [List.take_zero]; rfl) (HE.kill rfl (HE.kill rfl HE.nil))) rfl fun j γ2 hi => ?_
 try dsimp only [List.cons_append, List.nil_append]
 refine x5x fun K7 hK7 => ?_
 refine x4x x7x (by rfl) ?_
 refine x1x rfl ?_
 refine x1x rfl ?_
 refine u2u rfl u6u rfl ?_
 refine y3y rfl rfl rfl ?_
 refine x8x rfl (fun hc8 => ?_) (fun hc8 => ?_)
 rotate_left
 ·try simp at hc8
  obtain rfl : j = (a2u n ++ a0q n 3).length := by omega
  rw [List.take_length]
  refine v0v ?_
  refine hK6 _ _ ?_
  clear hK7 K7 hK6 K6
  refine a0y 7 rfl rfl (fun _ => rfl) ?_
  refine x4x x7x (by rfl) ?_
  refine x1x rfl ?_
  refine y7y rfl rfl rfl (a3b true ((a2u n ++ a0q n 3).filter (a5x proc n.g)) (Nat.le_trans (List.length_filter_le _ _) (by rw [List.length_append]; omega))) ?_
  refine x2x rfl ?_
  refine y0y ⟨.inr rfl, ?_⟩
  refine z0z rfl rfl rfl
 try simp at hc8
 obtain ⟨p, hp⟩ : ∃ p, (a2u n ++ a0q n 3)[j]? = some p := ⟨_, List.getElem?_eq_getElem (by omega)⟩
 have hfl : (((a2u n ++ a0q n 3).take j).filter (a5x proc n.g)).length ≤ 5000000 := Nat.le_trans (List.length_filter_le _ _) (by rw [List.length_take]; omega)
 refine x9x ?_
 refine hK7 _ _ ?_
 clear hK7 K7
 refine x5x fun K9 hK9 => ?_
 refine y6y ?_
 refine p6p x7x r2r (by rfl) ?_
 refine x1x rfl ?_
 refine x1x rfl ?_
 refine z7z rfl rfl u6u rfl z1z rfl hp ?_
 refine x0x rfl z1z rfl rfl y9y rfl rfl ?_
 refine z3z rfl y9y rfl ?_
 refine x1x rfl ?_
 refine y3y rfl rfl rfl ?_
 refine x1x rfl ?_
 refine s9s rfl rfl (fun hg10 => ?_) (fun hg10 => ?_)
 rotate_left
 ·try simp at hg10
  have hw : ¬ a5x proc n.g p = true := by simp only [a5x, decide_eq_true_eq]; omega
  refine x6x rfl rfl ?_
  refine x6x rfl rfl ?_
  refine x6x rfl rfl ?_
  refine x6x rfl rfl ?_
  refine x6x rfl rfl ?_
  refine x6x rfl rfl ?_
  refine x6x rfl rfl ?_
  refine y2y rfl rfl ?_
  refine ⟨by kernel_rfl, ?_⟩
  refine x8x rfl (fun hc12 => ?_) (fun hc12 => ?_)
  ·simp at hc12
  try simp at hc12
  try have hw : ¬ a5x proc n.g p = true := by simp only [a5x, decide_eq_true_eq]; omega
  refine x9x ?_
  refine hK9 _ _ ?_
  clear hK9 K9
  refine y4y x7x (by rfl) ?_
  refine x1x rfl ?_
  refine y3y rfl rfl rfl ?_
  refine x2x rfl ?_
  exact ⟨j + 1, ⟨by omega, by omega⟩, [0, 0, _, _, _], (Cov.cons (t := 7) rfl (Cov.cons' (t := 8) rfl (by rw [v6v (by omega) (by omega)]; rfl) Cov.nil)), (Cov.cons (t := 1) rfl (Cov.cons (t := 2) rfl (Cov.cons (t := 5) rfl Cov.nil))), (HE.row rfl (by rw [a1l hp]; rw [if_neg hw, List.append_nil]) (HE.kill rfl (HE.kill rfl HE.nil))), (HE.same (id := 0) rfl (HE.same (id := 1) rfl (HE.same (id := 5) rfl HE.nil))), rfl⟩
 try simp at hg10
 have hw1 : p.to = proc := by exact hg10
 refine x1x rfl ?_
 refine y5y rfl rfl ?_
 refine x1x rfl ?_
 refine y5y rfl rfl ?_
 refine z7z rfl rfl u6u rfl z1z rfl hp ?_
 refine y5y rfl rfl ?_
 refine x0x rfl z1z rfl rfl y9y rfl rfl ?_
 refine y5y rfl rfl ?_
 refine z3z rfl y9y rfl ?_
 refine y5y rfl rfl ?_
 refine x0x rfl z5z rfl rfl y9y rfl rfl ?_
 refine y5y rfl rfl ?_
 refine x3x rfl y9y rfl rfl ?_
 refine y5y rfl rfl ?_
 refine y3y rfl rfl rfl ?_
 refine y8y rfl rfl ?_
 refine ⟨by kernel_rfl, ?_⟩
 refine x8x rfl (fun hc11 => ?_) (fun hc11 => ?_)
 rotate_left
 ·try simp at hc11
  try have hw : ¬ a5x proc n.g p = true := by simp only [a5x, decide_eq_true_eq]; omega
  refine x9x ?_
  refine hK9 _ _ ?_
  clear hK9 K9
  refine y4y x7x (by rfl) ?_
  refine x1x rfl ?_
  refine y3y rfl rfl rfl ?_
  refine x2x rfl ?_
  exact ⟨j + 1, ⟨by omega, by omega⟩, [0, 0, _, _, _], (Cov.cons (t := 7) rfl (Cov.cons' (t := 8) rfl (by rw [v6v (by omega) (by omega)]; rfl) Cov.nil)), (Cov.cons (t := 1) rfl (Cov.cons (t := 2) rfl (Cov.cons (t := 5) rfl Cov.nil))), (HE.row rfl (by rw [a1l hp]; rw [if_neg hw, List.append_nil]) (HE.kill rfl (HE.kill rfl HE.nil))), (HE.same (id := 0) rfl (HE.same (id := 1) rfl (HE.same (id := 5) rfl HE.nil))), rfl⟩
 try simp at hc11
 have hw : a5x proc n.g p = true := by simp only [a5x, decide_eq_true_eq]; omega
 refine y4y x7x (by rfl) ?_
 refine x1x rfl ?_
 refine x1x rfl ?_
 refine x1x rfl ?_
 refine z7z rfl rfl u6u rfl z1z rfl hp ?_
 refine z6z rfl z1z rfl rfl ?_
 refine r6r (id := 3) u6u rfl z1z rfl rfl rfl rfl rfl rfl ?_
 refine r8r (zs := (((a2u n ++ a0q n 3).take j).filter (a5x proc n.g) ++ [p]).map w0w) rfl rfl u6u rfl z1z rfl rfl rfl rfl (by rfl) (a0j _ _ _) (by have hb56 : T76.bytes = 56 := rfl; rw [List.length_map, hb56]; simp only [List.length_append, List.length_cons, List.length_nil]; omega) ?_
 refine x2x rfl ?_
 refine hK9 _ _ ?_
 clear hK9 K9
 refine y4y x7x (by rfl) ?_
 refine x1x rfl ?_
 refine y3y rfl rfl rfl ?_
 refine x2x rfl ?_
 exact ⟨j + 1, ⟨by omega, by omega⟩, [0, 0, _, _, _], (Cov.cons (t := 7) rfl (Cov.cons' (t := 8) rfl (by rw [v6v (by omega) (by omega)]; rfl) Cov.nil)), (Cov.cons (t := 1) rfl (Cov.cons (t := 2) rfl (Cov.cons (t := 5) rfl Cov.nil))), (HE.row rfl (by rw [a1l hp]; rw [if_pos hw]) (HE.kill rfl (HE.kill rfl HE.nil))), (HE.same (id := 0) rfl (HE.same (id := 1) rfl (HE.same (id := 5) rfl HE.nil))), rfl⟩
end
end Go.Proofs.YtpadkogpeobboaaGreat.Am
