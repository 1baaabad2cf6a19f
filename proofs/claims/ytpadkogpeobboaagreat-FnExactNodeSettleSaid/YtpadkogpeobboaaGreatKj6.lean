/- Part 6 of the texts that the proof of LawFnExactNodeSettle leans on, merged by program. -/
import Derived.Test.YtpadkogpeobboaaGreatKj5
set_option linter.unusedVariables false
set_option linter.unusedSimpArgs false
namespace Go.Proofs.YtpadkogpeobboaaGreat.Am
open Go Go.RowKit
section
theorem a8t (c : Bool) (n : Nd) : a0o Tryz.prog 69 [.agg (a1d c n)] (.pv (.bool (kb (a0r n)))) := by
 refine z4z x7x (fn := Tryz.f69) (by kernel_rfl) (by kernel_rfl) rfl (outs := [.pv (.bool (kb (a0r n)))]) (by rfl) (Nat.le_of_ble_eq_true rfl) 1 ?_
 have hpl := a5v n.id 4
 refine x4x x7x (by rfl) ?_
 refine v5v (id := 0) rfl rfl rfl ?_
 refine x2x rfl ?_
 refine x5x fun K1 hK1 => ?_
 refine p6p x7x r2r (by rfl) ?_
 refine x0x rfl z5z rfl rfl y9y rfl rfl ?_
 refine x3x rfl y9y rfl rfl ?_
 refine y7y rfl rfl rfl (q3q ..) ?_
 refine w2w rfl ?_
 refine x1x rfl ?_
 refine s9s rfl rfl (fun hg2 => ?_) (fun hg2 => ?_)
 rotate_left
 ·try simp at hg2
  have hX : ¬ (0 ≤ n.id ∧ n.id ≤ 2) := by omega
  refine x6x rfl rfl ?_
  refine x6x rfl rfl ?_
  refine x6x rfl rfl ?_
  refine x6x rfl rfl ?_
  refine y8y rfl rfl ?_
  refine x1x rfl ?_
  refine x6x rfl rfl ?_
  refine x6x rfl rfl ?_
  refine x6x rfl rfl ?_
  refine x6x rfl rfl ?_
  refine y8y rfl rfl ?_
  refine x1x rfl ?_
  refine x6x rfl rfl ?_
  refine x6x rfl rfl ?_
  refine x6x rfl rfl ?_
  refine x6x rfl rfl ?_
  refine x6x rfl rfl ?_
  refine y8y rfl rfl ?_
  refine x1x rfl ?_
  refine x6x rfl rfl ?_
  refine x6x rfl rfl ?_
  refine x6x rfl rfl ?_
  refine x6x rfl rfl ?_
  refine x6x rfl rfl ?_
  refine y8y rfl rfl ?_
  refine x1x rfl ?_
  refine x6x rfl rfl ?_
  refine x6x rfl rfl ?_
  refine x6x rfl rfl ?_
  refine x6x rfl rfl ?_
  refine y8y rfl rfl ?_
  refine x1x rfl ?_
  refine x6x rfl rfl ?_
  refine x6x rfl rfl ?_
  refine x6x rfl rfl ?_
  refine y8y rfl rfl ?_
  refine ⟨by kernel_rfl, ?_⟩
  refine x8x rfl (fun hc33 => ?_) (fun hc33 => ?_)
  rotate_left
  ·simp at hc33
  try simp at hc33
  try have hX : ¬ a6w n := a4z (by simpa using hc33)
  refine x4x x7x (by rfl) ?_
  refine x2x rfl ?_
  refine y0y ⟨.inr rfl, ?_⟩
  clear hK1 K1
  refine z0z rfl ?_ rfl
  exact congrArg (fun b : Bool => [AV.pv (.bool b)]) (a7j (fun h => by obtain ⟨⟨q1, q2, q3, q4, q5, q6, q7, q8, q9⟩, q0⟩ := h; exact hX q1.1))
 try simp at hg2
 have f1 : 0 ≤ n.id ∧ n.id ≤ 2 := by exact hg2
 refine x0x rfl z5z rfl rfl y9y rfl rfl ?_
 refine y5y rfl rfl ?_
 refine x3x rfl y9y rfl rfl ?_
 refine y5y rfl rfl ?_
 refine y7y rfl rfl rfl (a1n ..) ?_
 refine y5y rfl rfl ?_
 refine y7y rfl rfl rfl (q3q ..) ?_
 refine y5y rfl rfl ?_
 refine w2w rfl ?_
 refine y2y rfl rfl ?_
 refine x1x rfl ?_
 refine s9s rfl rfl (fun hg3 => ?_) (fun hg3 => ?_)
 rotate_left
 ·try simp at hg3
  have hX : ¬ (1 ≤ n.inc ∧ n.inc ≤ 9999) := by omega
  refine x6x rfl rfl ?_
  refine x6x rfl rfl ?_
  refine x6x rfl rfl ?_
  refine y8y rfl rfl ?_
  refine x1x rfl ?_
  refine x6x rfl rfl ?_
  refine x6x rfl rfl ?_
  refine x6x rfl rfl ?_
  refine x6x rfl rfl ?_
  refine x6x rfl rfl ?_
  refine y8y rfl rfl ?_
  refine x1x rfl ?_
  refine x6x rfl rfl ?_
  refine x6x rfl rfl ?_
  refine x6x rfl rfl ?_
  refine x6x rfl rfl ?_
  refine x6x rfl rfl ?_
  refine y8y rfl rfl ?_
  refine x1x rfl ?_
  refine x6x rfl rfl ?_
  refine x6x rfl rfl ?_
  refine x6x rfl rfl ?_
  refine x6x rfl rfl ?_
  refine y8y rfl rfl ?_
  refine x1x rfl ?_
  refine x6x rfl rfl ?_
  refine x6x rfl rfl ?_
  refine x6x rfl rfl ?_
  refine y8y rfl rfl ?_
  refine ⟨by kernel_rfl, ?_⟩
  refine x8x rfl (fun hc32 => ?_) (fun hc32 => ?_)
  rotate_left
  ·simp at hc32
  try simp at hc32
  try have hX : ¬ a6w n := a4z (by simpa using hc32)
  refine x4x x7x (by rfl) ?_
  refine x2x rfl ?_
  refine y0y ⟨.inr rfl, ?_⟩
  clear hK1 K1
  refine z0z rfl ?_ rfl
  exact congrArg (fun b : Bool => [AV.pv (.bool b)]) (a7j (fun h => by obtain ⟨⟨q1, q2, q3, q4, q5, q6, q7, q8, q9⟩, q0⟩ := h; exact hX q1.2.1))
 try simp at hg3
 have f2 : 1 ≤ n.inc ∧ n.inc ≤ 9999 := by exact hg3
 refine x0x rfl z5z rfl rfl y9y rfl rfl ?_
 refine y5y rfl rfl ?_
 refine x3x rfl y9y rfl rfl ?_
 refine y5y rfl rfl ?_
 refine y7y rfl rfl rfl (q3q ..) ?_
 refine y5y rfl rfl ?_
 refine w2w rfl ?_
 refine y2y rfl rfl ?_
 refine x1x rfl ?_
 refine s9s rfl rfl (fun hg4 => ?_) (fun hg4 => ?_)
 rotate_left
 ·try simp at hg4
  have hX : ¬ (0 ≤ n.g ∧ n.g ≤ 41) := by omega
  refine x6x rfl rfl ?_
  refine x6x rfl rfl ?_
  refine x6x rfl rfl ?_
  refine x6x rfl rfl ?_
  refine y8y rfl rfl ?_
  refine x1x rfl ?_
  refine x6x rfl rfl ?_
  refine x6x rfl rfl ?_
  refine x6x rfl rfl ?_
  refine x6x rfl rfl ?_
  refine x6x rfl rfl ?_
  refine y8y rfl rfl ?_
  refine x1x rfl ?_
  refine x6x rfl rfl ?_
  refine x6x rfl rfl ?_
  refine x6x rfl rfl ?_
  refine x6x rfl rfl ?_
  refine y8y rfl rfl ?_
  refine x1x rfl ?_
  refine x6x rfl rfl ?_
  refine x6x rfl rfl ?_
  refine x6x rfl rfl ?_
  refine y8y rfl rfl ?_
  refine ⟨by kernel_rfl, ?_⟩
  refine x8x rfl (fun hc31 => ?_) (fun hc31 => ?_)
  rotate_left
  ·simp at hc31
  try simp at hc31
  try have hX : ¬ a6w n := a4z (by simpa using hc31)
  refine x4x x7x (by rfl) ?_
  refine x2x rfl ?_
  refine y0y ⟨.inr rfl, ?_⟩
  clear hK1 K1
  refine z0z rfl ?_ rfl
  exact congrArg (fun b : Bool => [AV.pv (.bool b)]) (a7j (fun h => by obtain ⟨⟨q1, q2, q3, q4, q5, q6, q7, q8, q9⟩, q0⟩ := h; exact hX q1.2.2.1))
 try simp at hg4
 have f3 : 0 ≤ n.g ∧ n.g ≤ 41 := by exact hg4
 refine x0x rfl z5z rfl rfl y9y rfl rfl ?_
 refine y5y rfl rfl ?_
 refine x3x rfl y9y rfl rfl ?_
 refine y5y rfl rfl ?_
 refine y7y rfl rfl rfl (a1n ..) ?_
 refine y5y rfl rfl ?_
 refine y7y rfl rfl rfl (q3q ..) ?_
 refine y5y rfl rfl ?_
 refine w2w rfl ?_
 refine y2y rfl rfl ?_
 refine x1x rfl ?_
 refine s9s rfl rfl (fun hg5 => ?_) (fun hg5 => ?_)
 rotate_left
 ·try simp at hg5
  have hX : ¬ (0 ≤ n.led ∧ n.led ≤ 9999) := by omega
  refine x6x rfl rfl ?_
  refine x6x rfl rfl ?_
  refine x6x rfl rfl ?_
  refine x6x rfl rfl ?_
  refine y8y rfl rfl ?_
  refine x1x rfl ?_
  refine x6x rfl rfl ?_
  refine x6x rfl rfl ?_
  refine x6x rfl rfl ?_
  refine x6x rfl rfl ?_
  refine y8y rfl rfl ?_
  refine x1x rfl ?_
  refine x6x rfl rfl ?_
  refine x6x rfl rfl ?_
  refine x6x rfl rfl ?_
  refine y8y rfl rfl ?_
  refine ⟨by kernel_rfl, ?_⟩
  refine x8x rfl (fun hc30 => ?_) (fun hc30 => ?_)
  rotate_left
  ·simp at hc30
  try simp at hc30
  try have hX : ¬ a6w n := a4z (by simpa using hc30)
  refine x4x x7x (by rfl) ?_
  refine x2x rfl ?_
  refine y0y ⟨.inr rfl, ?_⟩
  clear hK1 K1
  refine z0z rfl ?_ rfl
  exact congrArg (fun b : Bool => [AV.pv (.bool b)]) (a7j (fun h => by obtain ⟨⟨q1, q2, q3, q4, q5, q6, q7, q8, q9⟩, q0⟩ := h; exact hX q1.2.2.2.1))
 try simp at hg5
 have f4 : 0 ≤ n.led ∧ n.led ≤ 9999 := by exact hg5
 refine x0x rfl z5z rfl rfl u6u rfl rfl ?_
 refine y5y rfl rfl ?_
 refine x3x rfl u6u rfl rfl ?_
 refine y5y rfl rfl ?_
 refine y7y rfl rfl rfl (a3o ..) ?_
 refine y5y rfl rfl ?_
 refine y7y rfl rfl rfl (a3n ..) ?_
 refine y5y rfl rfl ?_
 refine w2w rfl ?_
 refine y2y rfl rfl ?_
 refine x1x rfl ?_
 refine s9s rfl rfl (fun hg6 => ?_) (fun hg6 => ?_)
 rotate_left
 ·try simp at hg6
  have hX : ¬ a7i okE a2b n.kept 100 = true := by simpa using hg6
  refine x6x rfl rfl ?_
  refine x6x rfl rfl ?_
  refine x6x rfl rfl ?_
  refine y8y rfl rfl ?_
  refine x1x rfl ?_
  refine x6x rfl rfl ?_
  refine x6x rfl rfl ?_
  refine x6x rfl rfl ?_
  refine y8y rfl rfl ?_
  refine ⟨by kernel_rfl, ?_⟩
  refine x8x rfl (fun hc29 => ?_) (fun hc29 => ?_)
  rotate_left
  ·simp at hc29
  try simp at hc29
  try have hX : ¬ a6w n := a4z (by simpa using hc29)
  refine x4x x7x (by rfl) ?_
  refine x2x rfl ?_
  refine y0y ⟨.inr rfl, ?_⟩
  clear hK1 K1
  refine z0z rfl ?_ rfl
  exact congrArg (fun b : Bool => [AV.pv (.bool b)]) (a7j (fun h => by obtain ⟨⟨q1, q2, q3, q4, q5, q6, q7, q8, q9⟩, q0⟩ := h; exact hX q2))
 try simp at hg6
 have f5 : a7i okE a2b n.kept 100 = true := by exact hg6
 refine x0x rfl z5z rfl rfl u7u rfl rfl ?_
 refine y5y rfl rfl ?_
 refine x3x rfl u7u rfl rfl ?_
 refine y5y rfl rfl ?_
 refine y7y rfl rfl rfl (b3j ..) ?_
 refine y5y rfl rfl ?_
 refine w2w rfl ?_
 refine y2y rfl rfl ?_
 refine x1x rfl ?_
 refine s9s rfl rfl (fun hg7 => ?_) (fun hg7 => ?_)
 rotate_left
 ·try simp at hg7
  have hX : ¬ a7i okO a3c n.outs 96 = true := by simpa using hg7
  refine x6x rfl rfl ?_
  refine x6x rfl rfl ?_
  refine y8y rfl rfl ?_
  refine ⟨by kernel_rfl, ?_⟩
  refine x8x rfl (fun hc28 => ?_) (fun hc28 => ?_)
  rotate_left
  ·simp at hc28
  try simp at hc28
  try have hX : ¬ a6w n := a4z (by simpa using hc28)
  refine x4x x7x (by rfl) ?_
  refine x2x rfl ?_
  refine y0y ⟨.inr rfl, ?_⟩
  clear hK1 K1
  refine z0z rfl ?_ rfl
  exact congrArg (fun b : Bool => [AV.pv (.bool b)]) (a7j (fun h => by obtain ⟨⟨q1, q2, q3, q4, q5, q6, q7, q8, q9⟩, q0⟩ := h; exact hX q3))
 try simp at hg7
 have f6 : a7i okO a3c n.outs 96 = true := by exact hg7
 refine y1y rfl z5z rfl rfl rfl ?_
 refine y5y rfl rfl ?_
 refine y7y rfl rfl rfl (b7p ..) ?_
 refine y5y rfl rfl ?_
 refine w2w rfl ?_
 refine y2y rfl rfl ?_
 refine ⟨by kernel_rfl, ?_⟩
 refine x8x rfl (fun hc8 => ?_) (fun hc8 => ?_)
 ·try simp at hc8
  try have hX : ¬ a6w n := a4z (by simpa using hc8)
  refine x4x x7x (by rfl) ?_
  refine x2x rfl ?_
  refine y0y ⟨.inr rfl, ?_⟩
  clear hK1 K1
  refine z0z rfl ?_ rfl
  exact congrArg (fun b : Bool => [AV.pv (.bool b)]) (a7j (fun h => by obtain ⟨⟨q1, q2, q3, q4, q5, q6, q7, q8, q9⟩, q0⟩ := h; exact hX ⟨q6, q7, q1.2.2.2.2.1, q1.2.2.2.2.2.1, q1.2.2.2.2.2.2, q9⟩))
 try simp at hc8
 have fF : a6w n := b0v.1 (by simpa using hc8)
 have fo96 := (a0x f6).1
 refine x9x ?_
 refine hK1 _ _ ?_
 clear hK1 K1
 refine a9l (ι := Unit) (fun _i γ1 => []) (fun _i γ1 => []) (fun _i => ∀ (i : Nat) a, n.outs[i]? = some a → a.time < n.g) (Cov.cons (t := 1) rfl Cov.nil) (HE.same (id := 0) rfl HE.nil) ?_ fun _i γ1 hi => ?_
 ·refine p6p x7x r2r (by rfl) ?_
  refine x0x rfl z5z rfl rfl u7u rfl rfl ?_
  refine x3x rfl u7u rfl rfl ?_
  refine u2u rfl u7u rfl ?_
  refine y3y rfl rfl rfl ?_
  refine x1x rfl ?_
  refine s9s rfl rfl (fun hg9 => ?_) (fun hg9 => ?_)
  rotate_left
  ·try simp at hg9
   have g0 : n.outs.length = 0 := by (rw [hg9]; rfl)
   have fO : ∀ (i : Nat) a, n.outs[i]? = some a → a.time < n.g := fun i a ha => by have := (List.getElem?_eq_some_iff.1 ha).1; omega
   refine x6x rfl rfl ?_
   refine x6x rfl rfl ?_
   refine x6x rfl rfl ?_
   refine x6x rfl rfl ?_
   refine x6x rfl rfl ?_
   refine x6x rfl rfl ?_
   refine x6x rfl rfl ?_
   refine x6x rfl rfl ?_
   refine x6x rfl rfl ?_
   refine x6x rfl rfl ?_
   refine x6x rfl rfl ?_
   refine y2y rfl rfl ?_
   refine ⟨by kernel_rfl, ?_⟩
   refine x8x rfl (fun hc11 => ?_) (fun hc11 => ?_)
   ·simp at hc11
   try simp at hc11
   try have fO : ∀ (i : Nat) a, n.outs[i]? = some a → a.time < n.g := c3r f6 ho (by omega)
   refine x9x ?_
   exact ⟨(), fO, [], Cov.nil, (Cov.cons (t := 1) rfl Cov.nil), HE.nil, (HE.same (id := 0) rfl HE.nil), rfl⟩
  try simp at hg9
  have g0 : 0 < n.outs.length := by omega
  obtain ⟨o, ho⟩ : ∃ o, n.outs[n.outs.length - 1]? = some o := ⟨_, List.getElem?_eq_getElem (by omega)⟩
  refine x0x rfl z5z rfl rfl u7u rfl rfl ?_
  refine y5y rfl rfl ?_
  refine x3x rfl u7u rfl rfl ?_
  refine y5y rfl rfl ?_
  refine x0x rfl z5z rfl rfl u7u rfl rfl ?_
  refine y5y rfl rfl ?_
  refine x3x rfl u7u rfl rfl ?_
  refine y5y rfl rfl ?_
  refine u2u rfl u7u rfl ?_
  refine y5y rfl rfl ?_
  refine a0k (b := 1) rfl rfl (by omega) (by omega) ?_
  refine y5y rfl rfl ?_
  refine z7z rfl rfl u7u rfl u0u rfl ho ?_
  refine y5y rfl rfl ?_
  refine x0x rfl u0u rfl rfl y9y rfl rfl ?_
  refine y5y rfl rfl ?_
  refine z3z rfl y9y rfl ?_
  refine y5y rfl rfl ?_
  refine x0x rfl z5z rfl rfl y9y rfl rfl ?_
  refine y5y rfl rfl ?_
  refine x3x rfl y9y rfl rfl ?_
  refine y5y rfl rfl ?_
  refine y3y rfl rfl rfl ?_
  refine y8y rfl rfl ?_
  refine ⟨by kernel_rfl, ?_⟩
  refine x8x rfl (fun hc10 => ?_) (fun hc10 => ?_)
  rotate_left
  ·try simp at hc10
   try have fO : ∀ (i : Nat) a, n.outs[i]? = some a → a.time < n.g := c3r f6 ho (by omega)
   refine x9x ?_
   exact ⟨(), fO, [], Cov.nil, (Cov.cons (t := 1) rfl Cov.nil), HE.nil, (HE.same (id := 0) rfl HE.nil), rfl⟩
  try simp at hc10
  have hX : ¬ o.time < n.g := by omega
  refine x4x x7x (by rfl) ?_
  refine x2x rfl ?_
  refine y0y ⟨.inr rfl, ?_⟩
  refine z0z rfl ?_ rfl
  exact congrArg (fun b : Bool => [AV.pv (.bool b)]) (a7j (fun h => by obtain ⟨⟨q1, q2, q3, q4, q5, q6, q7, q8, q9⟩, q0⟩ := h; exact hX (q4 _ _ ho)))
 ·try dsimp only [List.cons_append, List.nil_append]
  have fO := hi
  refine x4x x7x (by rfl) ?_
  refine x0x rfl z5z rfl rfl y9y rfl rfl ?_
  refine x3x rfl y9y rfl rfl ?_
  refine y7y rfl rfl rfl (b7v ..) ?_
  refine x2x rfl ?_
  refine x5x fun K12 hK12 => ?_
  refine x4x x7x (by rfl) ?_
  refine x0x rfl z5z rfl rfl w1w rfl rfl ?_
  refine x3x rfl w1w rfl rfl ?_
  refine u2u rfl w1w rfl ?_
  refine x1x rfl ?_
  refine u2u rfl w1w rfl ?_
  refine y3y rfl rfl rfl ?_
  refine x8x rfl (fun hc13 => ?_) (fun hc13 => ?_)
  ·try simp at hc13
   refine x4x x7x (by rfl) ?_
   refine x2x rfl ?_
   refine y0y ⟨.inr rfl, ?_⟩
   clear hK12 K12
   refine z0z rfl ?_ rfl
   exact congrArg (fun b : Bool => [AV.pv (.bool b)]) (a7j (fun h => by obtain ⟨⟨q1, q2, q3, q4, q5, q6, q7, q8, q9⟩, q0⟩ := h; omega))
  try simp at hc13
  have fL : n.lanes.length = (a1c n.id 4).length := by omega
  refine x9x ?_
  refine hK12 _ _ ?_
  clear hK12 K12
  refine x5x fun K14 hK14 => ?_
  refine x4x x7x (by rfl) ?_
  refine x2x rfl ?_
  refine y6y ?_
  refine u4u (ι := Nat) (fun i γ2 => [(4, .pv (.int .i64 (i : Int)))]) (fun i γ2 => []) (fun i => i ≤ (a1c n.id 4).length ∧ c7y n.lanes (fun j l => (a1c n.id 4)[j]? = some l.proc ∧ a6v l = true) i) (fun i => (a1c n.id 4).length - i) (Cov.cons (t := 1) rfl (Cov.cons (t := 3) rfl Cov.nil)) (HE.same (id := 0) rfl HE.nil) 0 ⟨by omega, a4g⟩ [] (Cov.cons (t := 4) rfl Cov.nil) HE.nil rfl fun i γ2 hi => ?_
  try dsimp only [List.cons_append, List.nil_append]
  obtain ⟨b1, b2⟩ := hi
  refine x5x fun K15 hK15 => ?_
  refine x4x x7x (by rfl) ?_
  refine x1x rfl ?_
  refine x1x rfl ?_
  refine u2u rfl w1w rfl ?_
  refine y3y rfl rfl rfl ?_
  refine x8x rfl (fun hc16 => ?_) (fun hc16 => ?_)
  ·try simp at hc16
   obtain ⟨l, hl⟩ : ∃ l, n.lanes[i]? = some l := ⟨_, List.getElem?_eq_getElem (by omega)⟩
   obtain ⟨p, hp⟩ : ∃ p, (a1c n.id 4)[i]? = some p := ⟨_, List.getElem?_eq_getElem (by omega)⟩
   refine x9x ?_
   refine hK15 _ _ ?_
   clear hK15 K15
   refine x5x fun K17 hK17 => ?_
   refine y6y ?_
   refine p6p x7x r2r (by rfl) ?_
   refine x0x rfl z5z rfl rfl w1w rfl rfl ?_
   refine x3x rfl w1w rfl rfl ?_
   refine x1x rfl ?_
   refine z7z rfl rfl w1w rfl v2v rfl hl ?_
   refine z6z rfl v2v rfl rfl ?_
   refine y7y rfl rfl rfl (a8s ..) ?_
   refine w2w rfl ?_
   refine x1x rfl ?_
   refine s9s rfl rfl (fun hg18 => ?_) (fun hg18 => ?_)
   rotate_left
   ·try simp at hg18
    have hX : ¬ a6v l = true := by simpa using hg18
    refine x6x rfl rfl ?_
    refine x6x rfl rfl ?_
    refine x6x rfl rfl ?_
    refine x6x rfl rfl ?_
    refine x6x rfl rfl ?_
    refine x6x rfl rfl ?_
    refine x6x rfl rfl ?_
    refine x6x rfl rfl ?_
    refine x6x rfl rfl ?_
    refine x6x rfl rfl ?_
    refine x6x rfl rfl ?_
    refine y8y rfl rfl ?_
    refine ⟨by kernel_rfl, ?_⟩
    refine x8x rfl (fun hc20 => ?_) (fun hc20 => ?_)
    rotate_left
    ·simp at hc20
    try simp at hc20
    try have hX : ¬ l.proc = p := by first | exact hc20 | (simpa [d0r] using hc20)
    refine x4x x7x (by rfl) ?_
    refine x2x rfl ?_
    refine y0y ⟨.inr rfl, ?_⟩
    clear hK17 K17 hK14 K14
    refine z0z rfl ?_ rfl
    exact congrArg (fun b : Bool => [AV.pv (.bool b)]) (a7j (fun h => by obtain ⟨⟨q1, q2, q3, q4, q5, q6, q7, q8, q9⟩, q0⟩ := h; exact hX (q8 _ _ hl).2))
   try simp at hg18
   have hlo : a6v l = true := by exact hg18
   refine x0x rfl z5z rfl rfl w1w rfl rfl ?_
   refine y5y rfl rfl ?_
   refine x3x rfl w1w rfl rfl ?_
   refine y5y rfl rfl ?_
   refine x1x rfl ?_
   refine y5y rfl rfl ?_
   refine z7z rfl rfl w1w rfl v2v rfl hl ?_
   refine y5y rfl rfl ?_
   refine x0x rfl v2v rfl rfl y9y rfl rfl ?_
   refine y5y rfl rfl ?_
   refine z3z rfl y9y rfl ?_
   refine y5y rfl rfl ?_
   refine x1x rfl ?_
   refine y5y rfl rfl ?_
   refine x1x rfl ?_
   refine y5y rfl rfl ?_
   refine z7z rfl rfl w1w rfl v2v rfl hp ?_
   refine y5y rfl rfl ?_
   refine x0x rfl v2v rfl rfl y9y rfl rfl ?_
   refine y5y rfl rfl ?_
   refine z3z rfl y9y rfl ?_
   refine y5y rfl rfl ?_
   refine y3y rfl rfl rfl ?_
   refine y2y rfl rfl ?_
   refine ⟨by kernel_rfl, ?_⟩
   refine x8x rfl (fun hc19 => ?_) (fun hc19 => ?_)
   rotate_left
   ·try simp at hc19
    have hpe : l.proc = p := by exact hc19
    refine x9x ?_
    refine hK17 _ _ ?_
    clear hK17 K17
    refine y4y x7x (by rfl) ?_
    refine x1x rfl ?_
    refine u1u (b := 1) rfl rfl (by omega) ?_
    refine x2x rfl ?_
    exact ⟨i + 1, ⟨⟨by omega, a4h b2 hl ⟨by rw [hp, hpe], hlo⟩⟩, by omega⟩, [], (Cov.cons (t := 4) rfl Cov.nil), (Cov.cons (t := 1) rfl (Cov.cons (t := 3) rfl Cov.nil)), HE.nil, (HE.same (id := 0) rfl HE.nil), rfl⟩
   try simp at hc19
   try have hX : ¬ l.proc = p := by exact hc19
   refine x4x x7x (by rfl) ?_
   refine x2x rfl ?_
   refine y0y ⟨.inr rfl, ?_⟩
   clear hK17 K17 hK14 K14
   refine z0z rfl ?_ rfl
   exact congrArg (fun b : Bool => [AV.pv (.bool b)]) (a7j (fun h => by obtain ⟨⟨q1, q2, q3, q4, q5, q6, q7, q8, q9⟩, q0⟩ := h; have := (q8 _ _ hl).1; rw [hp] at this; exact hX (Option.some.inj this).symm))
  try simp at hc16
  have fN : d2x n := a6p b2 (by omega)
  refine v0v ?_
  refine hK14 _ _ ?_
  clear hK15 K15 hK14 K14
  refine x5x fun K21 hK21 => ?_
  refine x4x x7x (by rfl) ?_
  refine x2x rfl ?_
  refine y6y ?_
  refine u4u (ι := Nat) (fun j γ3 => [(5, .pv (.int .i64 (j : Int)))]) (fun j γ3 => []) (fun j => j ≤ (a1c n.id 4).length ∧ c7y n.lanes (fun j l => ∀ p, (a1c n.id 4)[j]? = some p → l.done.length ≤ same l.done (a0u n p) ∧ (a0u n p).length ≤ 100) j) (fun j => (a1c n.id 4).length - j) (Cov.cons (t := 1) rfl (Cov.cons (t := 3) rfl Cov.nil)) (HE.same (id := 0) rfl HE.nil) 0 ⟨by omega, a4g⟩ [] (Cov.cons (t := 5) rfl Cov.nil) HE.nil rfl fun j γ3 hi => ?_
  try dsimp only [List.cons_append, List.nil_append]
  obtain ⟨d1, d2⟩ := hi
  refine x5x fun K22 hK22 => ?_
  refine x4x x7x (by rfl) ?_
  refine x1x rfl ?_
  refine x1x rfl ?_
  refine u2u rfl w1w rfl ?_
  refine y3y rfl rfl rfl ?_
  refine x8x rfl (fun hc23 => ?_) (fun hc23 => ?_)
  rotate_left
  ·try simp at hc23
   have fC := fun (i : Nat) p l (a : (a1c n.id 4)[i]? = some p) (b : n.lanes[i]? = some l) => a6p d2 (by omega) i l b p a
   refine v0v ?_
   refine hK21 _ _ ?_
   clear hK22 K22 hK21 K21
   refine x4x x7x (by rfl) ?_
   refine x2x rfl ?_
   refine y0y ⟨.inr rfl, ?_⟩
   refine z0z rfl ?_ rfl
   exact congrArg (fun b : Bool => [AV.pv (.bool b)]) (d4g ⟨⟨⟨f1, f2, f3, f4, fF.2.2.1, fF.2.2.2.1, fF.2.2.2.2.1⟩, f5, f6, fO, fL, fF.1, fF.2.1, fN, fF.2.2.2.2.2⟩, fC⟩)
  try simp at hc23
  obtain ⟨l, hl⟩ : ∃ l, n.lanes[j]? = some l := ⟨_, List.getElem?_eq_getElem (by omega)⟩
  obtain ⟨p, hp⟩ : ∃ p, (a1c n.id 4)[j]? = some p := ⟨_, List.getElem?_eq_getElem (by omega)⟩
  obtain ⟨hdl, _⟩ := a2i (fN j l hl).2
  refine x9x ?_
  refine hK22 _ _ ?_
  clear hK22 K22
  refine x5x fun K24 hK24 => ?_
  refine y6y ?_
  refine p6p x7x r2r (by rfl) ?_
  refine x0x rfl z5z rfl rfl w1w rfl rfl ?_
  refine x3x rfl w1w rfl rfl ?_
  refine x1x rfl ?_
  refine z7z rfl rfl w1w rfl v2v rfl hl ?_
  refine z6z rfl v2v rfl rfl ?_
  refine y1y rfl z5z rfl rfl rfl ?_
  refine x1x rfl ?_
  refine x1x rfl ?_
  refine z7z rfl rfl w1w rfl v2v rfl hp ?_
  refine x0x rfl v2v rfl rfl y9y rfl rfl ?_
  refine z3z rfl y9y rfl ?_
  refine y7y rfl rfl rfl (a7e c n p (by have := c5g f5 (by omega) fN; have := c0z fF.1 fF.2.1 fF.2.2.2.2.2; omega) (by omega) fF.1) ?_
  refine y7y rfl rfl rfl (b1g ..) ?_
  refine x0x rfl z5z rfl rfl w1w rfl rfl ?_
  refine x3x rfl w1w rfl rfl ?_
  refine x1x rfl ?_
  refine z7z rfl rfl w1w rfl v2v rfl hl ?_
  refine x0x rfl v2v rfl rfl v3v rfl rfl ?_
  refine z3z rfl v3v rfl ?_
  refine u2u rfl v3v rfl ?_
  refine y3y rfl rfl rfl ?_
  refine x1x rfl ?_
  refine s9s rfl rfl (fun hg25 => ?_) (fun hg25 => ?_)
  rotate_left
  ·try simp at hg25
   refine x6x rfl rfl ?_
   refine x6x rfl rfl ?_
   refine x6x rfl rfl ?_
   refine x6x rfl rfl ?_
   refine x6x rfl rfl ?_
   refine x6x rfl rfl ?_
   refine x6x rfl rfl ?_
   refine x6x rfl rfl ?_
   refine x6x rfl rfl ?_
   refine y8y rfl rfl ?_
   refine ⟨by kernel_rfl, ?_⟩
   refine x8x rfl (fun hc27 => ?_) (fun hc27 => ?_)
   rotate_left
   ·simp at hc27
   try simp at hc27
   refine x4x x7x (by rfl) ?_
   refine x2x rfl ?_
   refine y0y ⟨.inr rfl, ?_⟩
   clear hK24 K24 hK21 K21
   refine z0z rfl ?_ rfl
   exact congrArg (fun b : Bool => [AV.pv (.bool b)]) (a7j (fun h => by obtain ⟨⟨q1, q2, q3, q4, q5, q6, q7, q8, q9⟩, q0⟩ := h; have := q0 _ _ _ hp hl; omega))
  try simp at hg25
  refine y1y rfl z5z rfl rfl rfl ?_
  refine y5y rfl rfl ?_
  refine x1x rfl ?_
  refine y5y rfl rfl ?_
  refine x1x rfl ?_
  refine y5y rfl rfl ?_
  refine z7z rfl rfl w1w rfl v2v rfl hp ?_
  refine y5y rfl rfl ?_
  refine x0x rfl v2v rfl rfl y9y rfl rfl ?_
  refine y5y rfl rfl ?_
  refine z3z rfl y9y rfl ?_
  refine y5y rfl rfl ?_
  refine y7y rfl rfl rfl (a7e c n p (by have := c5g f5 (by omega) fN; have := c0z fF.1 fF.2.1 fF.2.2.2.2.2; omega) (by omega) fF.1) ?_
  refine y5y rfl rfl ?_
  refine u2u rfl u6u rfl ?_
  refine y5y rfl rfl ?_
  refine y7y rfl rfl rfl (a3o ..) ?_
  refine y5y rfl rfl ?_
  refine y3y rfl rfl rfl ?_
  refine y2y rfl rfl ?_
  refine ⟨by kernel_rfl, ?_⟩
  refine x8x rfl (fun hc26 => ?_) (fun hc26 => ?_)
  rotate_left
  ·try simp at hc26
   refine x9x ?_
   refine hK24 _ _ ?_
   clear hK24 K24
   refine y4y x7x (by rfl) ?_
   refine x1x rfl ?_
   refine u1u (b := 1) rfl rfl (by omega) ?_
   refine x2x rfl ?_
   exact ⟨j + 1, ⟨⟨by omega, a4h d2 hl (fun p2 hp2 => by rw [hp] at hp2; cases hp2; omega)⟩, by omega⟩, [], (Cov.cons (t := 5) rfl Cov.nil), (Cov.cons (t := 1) rfl (Cov.cons (t := 3) rfl Cov.nil)), HE.nil, (HE.same (id := 0) rfl HE.nil), rfl⟩
  try simp at hc26
  refine x4x x7x (by rfl) ?_
  refine x2x rfl ?_
  refine y0y ⟨.inr rfl, ?_⟩
  clear hK24 K24 hK21 K21
  refine z0z rfl ?_ rfl
  exact congrArg (fun b : Bool => [AV.pv (.bool b)]) (a7j (fun h => by obtain ⟨⟨q1, q2, q3, q4, q5, q6, q7, q8, q9⟩, q0⟩ := h; have := q0 _ _ _ hp hl; omega))
end
section
theorem b8v (c c' : Bool) (l : La) (s : List Ev) : a0o Tryz.prog 250 [.agg (a0m c l), a0i c' s] (.pv (.bool (kb (a9s l s)))) := by
 refine z4z x7x (fn := Tryz.f250) (by kernel_rfl) (by kernel_rfl) rfl (outs := [.pv (.bool (kb (a9s l s)))]) (by rfl) (Nat.le_of_ble_eq_true rfl) 1 ?_
 refine x4x x7x (by rfl) ?_
 refine v5v (id := 0) rfl rfl rfl ?_
 refine x2x rfl ?_
 refine x5x fun K1 hK1 => ?_
 refine x4x x7x (by rfl) ?_
 refine x1x rfl ?_
 refine y7y rfl rfl rfl (a3o ..) ?_
 refine y7y rfl rfl rfl (a3n ..) ?_
 refine w2w rfl ?_
 refine x8x rfl (fun hc2 => ?_) (fun hc2 => ?_)
 ·try simp at hc2
  try have hX : ¬ a7i okE a2b s 100 = true := by simpa using hc2
  refine x4x x7x (by rfl) ?_
  refine x2x rfl ?_
  refine y0y ⟨.inr rfl, ?_⟩
  clear hK1 K1
  refine z0z rfl ?_ rfl
  exact congrArg (fun b : Bool => [AV.pv (.bool b)]) (a7j (fun h => hX h.1))
 try simp at hc2
 have hA : a7i okE a2b s 100 = true := by exact hc2
 refine x9x ?_
 refine hK1 _ _ ?_
 clear hK1 K1
 refine x5x fun K3 hK3 => ?_
 refine x4x x7x (by rfl) ?_
 refine x2x rfl ?_
 refine y6y ?_
 refine w9w 1 rfl fun hlen => ?_
 refine u4u (ι := Nat) (fun i γ1 => [(5, .pv (.int .i64 (i : Int)))]) (fun i γ1 => []) (fun i => i ≤ s.length ∧ c7y s (fun _ e => e.to = l.proc) i) (fun i => s.length - i) (Cov.cons (t := 1) rfl (Cov.cons (t := 2) rfl Cov.nil)) (HE.same (id := 0) rfl HE.nil) 0 ⟨by omega, a4g⟩ [] (Cov.cons (t := 5) rfl Cov.nil) HE.nil rfl fun i γ1 hi => ?_
 try dsimp only [List.cons_append, List.nil_append]
 obtain ⟨h1, h2⟩ := hi
 refine x5x fun K4 hK4 => ?_
 refine x4x x7x (by rfl) ?_
 refine x1x rfl ?_
 refine x1x rfl ?_
 refine u2u rfl u6u rfl ?_
 refine y3y rfl rfl rfl ?_
 refine x8x rfl (fun hc5 => ?_) (fun hc5 => ?_)
 rotate_left
 ·try simp at hc5
  have hall := a6p h2 (by omega)
  refine v0v ?_
  refine hK3 _ _ ?_
  clear hK4 K4 hK3 K3
  refine x4x x7x (by rfl) ?_
  refine x2x rfl ?_
  refine y0y ⟨.inr rfl, ?_⟩
  refine z0z rfl ?_ rfl
  exact congrArg (fun b : Bool => [AV.pv (.bool b)]) (d4g ⟨hA, fun e he => by obtain ⟨i, hi⟩ := List.getElem?_of_mem he; exact hall i e hi⟩)
 try simp at hc5
 obtain ⟨e, he⟩ : ∃ e, s[i]? = some e := ⟨_, List.getElem?_eq_getElem (by omega)⟩
 refine x9x ?_
 refine hK4 _ _ ?_
 clear hK4 K4
 refine x5x fun K6 hK6 => ?_
 refine y6y ?_
 refine p6p x7x r2r (by rfl) ?_
 refine x1x rfl ?_
 refine x1x rfl ?_
 refine z7z rfl rfl u6u rfl z1z rfl he ?_
 refine x0x rfl z1z rfl rfl y9y rfl rfl ?_
 refine z3z rfl y9y rfl ?_
 refine x0x rfl v2v rfl rfl y9y rfl rfl ?_
 refine x3x rfl y9y rfl rfl ?_
 refine y3y rfl rfl rfl ?_
 refine ⟨by kernel_rfl, ?_⟩
 refine x8x rfl (fun hc7 => ?_) (fun hc7 => ?_)
 rotate_left
 ·try simp at hc7
  have hto : e.to = l.proc := by omega
  refine x9x ?_
  refine hK6 _ _ ?_
  clear hK6 K6
  refine y4y x7x (by rfl) ?_
  refine x1x rfl ?_
  refine u1u (b := 1) rfl rfl (by omega) ?_
  refine x2x rfl ?_
  exact ⟨i + 1, ⟨⟨by omega, a4h h2 he (by exact hto)⟩, by omega⟩, [], (Cov.cons (t := 5) rfl Cov.nil), (Cov.cons (t := 1) rfl (Cov.cons (t := 2) rfl Cov.nil)), HE.nil, (HE.same (id := 0) rfl HE.nil), rfl⟩
 try simp at hc7
 have hX : ¬ e.to = l.proc := by omega
 refine x4x x7x (by rfl) ?_
 refine x2x rfl ?_
 refine y0y ⟨.inr rfl, ?_⟩
 clear hK6 K6 hK3 K3
 refine z0z rfl ?_ rfl
 exact congrArg (fun b : Bool => [AV.pv (.bool b)]) (a7j (fun h => hX (h.2 e (List.mem_of_getElem? he))))
theorem b7w (c c' : Bool) (l : La) (s : List Ev) : a0o Tryz.prog 221 [.agg (a0m c l), a0i c' s] (.tup [.agg (w0w (b8g l s).1), .pv (.bool (b8g l s).2)]) := by
 refine z4z x7x (fn := Tryz.f221) (by kernel_rfl) (by kernel_rfl) rfl (outs := [.agg (w0w (b8g l s).1), .pv (.bool (b8g l s).2)]) (by rfl) (Nat.le_of_ble_eq_true rfl) 2 ?_
 have hsm := c1a l.done s
 refine x4x x7x (by rfl) ?_
 refine v5v (id := 0) rfl rfl rfl ?_
 refine u9u (id := 1) z1z a7o rfl ?_
 refine x2x rfl ?_
 refine x5x fun K1 hK1 => ?_
 refine x4x x7x (by rfl) ?_
 refine y1y rfl v2v rfl rfl rfl ?_
 refine y7y rfl rfl rfl (a8s ..) ?_
 refine w2w rfl ?_
 refine x1x rfl ?_
 refine s9s rfl rfl (fun hg2 => ?_) (fun hg2 => ?_)
 rotate_left
 ·try simp at hg2
  have fX : ¬ (a6v l = true ∧ a9s l s) := fun h => by have := h.1; simp_all
  refine x6x rfl rfl ?_
  refine x6x rfl rfl ?_
  refine x6x rfl rfl ?_
  refine y8y rfl rfl ?_
  refine x8x rfl (fun hc8 => ?_) (fun hc8 => ?_)
  rotate_left
  ·simp at hc8
  try simp at hc8
  have fX : ¬ (a6v l = true ∧ a9s l s) := by exact fX
  refine x4x x7x (by rfl) ?_
  refine s5s z1z rfl a7o rfl (by simp only [pI, a2g, q9q, AV.okc, AV.one, T3, T4, List.getElem?_cons_zero, List.getElem?_cons_succ, List.take_succ_cons, List.take_zero, List.drop_succ_cons, List.drop_zero, List.cons_append, List.nil_append, List.length_cons, List.length_nil, if_true, and_self, Nat.reduceAdd, Nat.reduceLeDiff]; rfl) ?_
  refine z2z rfl rfl z1z rfl rfl rfl rfl ?_
  refine x2x rfl ?_
  refine y0y ⟨.inr rfl, ?_⟩
  clear hK1 K1
  (rw [d1c fX]; exact ⟨_, _, rfl, .agg rfl (.cl rfl (.cl rfl (.cl rfl (.cl rfl (.cl rfl (.cl rfl (.cl rfl .nil))))))) (.cl rfl .nil)⟩)
 try simp at hg2
 have fL : a6v l = true := by exact hg2
 refine y1y rfl v2v rfl rfl rfl ?_
 refine y5y rfl rfl ?_
 refine x1x rfl ?_
 refine y5y rfl rfl ?_
 refine y7y rfl rfl rfl (b8v ..) ?_
 refine y5y rfl rfl ?_
 refine w2w rfl ?_
 refine y2y rfl rfl ?_
 refine x8x rfl (fun hc3 => ?_) (fun hc3 => ?_)
 ·try simp at hc3
  have fX : ¬ (a6v l = true ∧ a9s l s) := by exact fun h => a4z (by simpa using hc3) h.2
  refine x4x x7x (by rfl) ?_
  refine s5s z1z rfl a7o rfl (by simp only [pI, a2g, q9q, AV.okc, AV.one, T3, T4, List.getElem?_cons_zero, List.getElem?_cons_succ, List.take_succ_cons, List.take_zero, List.drop_succ_cons, List.drop_zero, List.cons_append, List.nil_append, List.length_cons, List.length_nil, if_true, and_self, Nat.reduceAdd, Nat.reduceLeDiff]; rfl) ?_
  refine z2z rfl rfl z1z rfl rfl rfl rfl ?_
  refine x2x rfl ?_
  refine y0y ⟨.inr rfl, ?_⟩
  clear hK1 K1
  (rw [d1c fX]; exact ⟨_, _, rfl, .agg rfl (.cl rfl (.cl rfl (.cl rfl (.cl rfl (.cl rfl (.cl rfl (.cl rfl .nil))))))) (.cl rfl .nil)⟩)
 try simp at hc3
 have fF : a6v l = true ∧ a9s l s := ⟨fL, b0v.1 (by simpa using hc3)⟩
 refine x9x ?_
 refine hK1 _ _ ?_
 clear hK1 K1
 refine x4x x7x (by rfl) ?_
 refine y1y rfl v2v rfl rfl rfl ?_
 refine x1x rfl ?_
 refine y7y rfl rfl rfl (b1g ..) ?_
 refine x2x rfl ?_
 refine x5x fun K4 hK4 => ?_
 refine w9w 1 rfl fun hlen => ?_
 refine x4x x7x (by rfl) ?_
 refine x1x rfl ?_
 refine x0x rfl v2v rfl rfl v3v rfl rfl ?_
 refine x3x rfl v3v rfl rfl ?_
 refine u2u rfl v3v rfl ?_
 refine y3y rfl rfl rfl ?_
 refine x1x rfl ?_
 refine s9s rfl rfl (fun hg5 => ?_) (fun hg5 => ?_)
 rotate_left
 ·try simp at hg5
  refine x6x rfl rfl ?_
  refine x6x rfl rfl ?_
  refine x6x rfl rfl ?_
  refine y8y rfl rfl ?_
  refine x8x rfl (fun hc7 => ?_) (fun hc7 => ?_)
  rotate_left
  ·simp at hc7
  try simp at hc7
  refine x4x x7x (by rfl) ?_
  refine s5s z1z rfl a7o rfl (by simp only [pI, a2g, q9q, AV.okc, AV.one, T3, T4, List.getElem?_cons_zero, List.getElem?_cons_succ, List.take_succ_cons, List.take_zero, List.drop_succ_cons, List.drop_zero, List.cons_append, List.nil_append, List.length_cons, List.length_nil, if_true, and_self, Nat.reduceAdd, Nat.reduceLeDiff]; rfl) ?_
  refine z2z rfl rfl z1z rfl rfl rfl rfl ?_
  refine x2x rfl ?_
  refine y0y ⟨.inr rfl, ?_⟩
  clear hK4 K4
  (rw [c1b fF, d0z (by omega)]; exact ⟨_, _, rfl, .agg rfl (.cl rfl (.cl rfl (.cl rfl (.cl rfl (.cl rfl (.cl rfl (.cl rfl .nil))))))) (.cl rfl .nil)⟩)
 try simp at hg5
 refine x1x rfl ?_
 refine y5y rfl rfl ?_
 refine x1x rfl ?_
 refine y5y rfl rfl ?_
 refine u2u rfl u6u rfl ?_
 refine y5y rfl rfl ?_
 refine y3y rfl rfl rfl ?_
 refine y2y rfl rfl ?_
 refine x8x rfl (fun hc6 => ?_) (fun hc6 => ?_)
 ·try simp at hc6
  refine x4x x7x (by rfl) ?_
  refine s5s z1z rfl a7o rfl (by simp only [pI, a2g, q9q, AV.okc, AV.one, T3, T4, List.getElem?_cons_zero, List.getElem?_cons_succ, List.take_succ_cons, List.take_zero, List.drop_succ_cons, List.drop_zero, List.cons_append, List.nil_append, List.length_cons, List.length_nil, if_true, and_self, Nat.reduceAdd, Nat.reduceLeDiff]; rfl) ?_
  refine z2z rfl rfl z1z rfl rfl rfl rfl ?_
  refine x2x rfl ?_
  refine y0y ⟨.inr rfl, ?_⟩
  clear hK4 K4
  (rw [c1b fF, d1a (by omega)]; exact ⟨_, _, rfl, .agg rfl (.cl rfl (.cl rfl (.cl rfl (.cl rfl (.cl rfl (.cl rfl (.cl rfl .nil))))))) (.cl rfl .nil)⟩)
 try simp at hc6
 have hlt : same l.done s < s.length := by omega
 obtain ⟨e, he⟩ : ∃ e, s[same l.done s]? = some e := ⟨_, List.getElem?_eq_getElem hlt⟩
 refine x9x ?_
 refine hK4 _ _ ?_
 clear hK4 K4
 refine x4x x7x (by rfl) ?_
 refine x1x rfl ?_
 refine x1x rfl ?_
 refine z7z rfl rfl u6u rfl z1z rfl he ?_
 refine z3z (out := .agg (w0w e)) rfl z1z rfl ?_
 refine z2z rfl rfl z1z rfl rfl rfl rfl ?_
 refine x2x rfl ?_
 refine y0y ⟨.inr rfl, ?_⟩
 (rw [c1b fF, d1b (by omega) he]; exact ⟨_, _, rfl, .agg rfl (.cl rfl (.cl rfl (.cl rfl (.cl rfl (.cl rfl (.cl rfl (.cl rfl .nil))))))) (.cl rfl .nil)⟩)
end
section
theorem b8w (c : Bool) (n : Nd) (fS : a1v n) (i : Nat) (l : La) (hl : n.lanes[i]? = some l) : a0o Tryz.prog 157 [.agg (a1d c n), .pv (.int .i64 (i : Int))] (.tup [.agg (w0w (b8g l (a0u n l.proc)).1), .pv (.bool (b8g l (a0u n l.proc)).2)]) := by
 refine z4z x7x (fn := Tryz.f157) (by kernel_rfl) (by kernel_rfl) rfl (outs := [.agg (w0w (b8g l (a0u n l.proc)).1), .pv (.bool (b8g l (a0u n l.proc)).2)]) (by rfl) (Nat.le_of_ble_eq_true rfl) 2 ?_
 have fB := s6s fS
 refine x4x x7x (by rfl) ?_
 refine v5v (id := 0) rfl rfl rfl ?_
 refine u9u (id := 1) z1z a7o rfl ?_
 refine x2x rfl ?_
 refine p6p x7x r2r (by rfl) ?_
 refine x0x rfl z5z rfl rfl w1w rfl rfl ?_
 refine x3x rfl w1w rfl rfl ?_
 refine x1x rfl ?_
 refine z7z rfl rfl w1w rfl v2v rfl hl ?_
 refine z6z rfl v2v rfl rfl ?_
 refine y1y rfl z5z rfl rfl rfl ?_
 refine x0x rfl z5z rfl rfl w1w rfl rfl ?_
 refine x3x rfl w1w rfl rfl ?_
 refine x1x rfl ?_
 refine z7z rfl rfl w1w rfl v2v rfl hl ?_
 refine x0x rfl v2v rfl rfl y9y rfl rfl ?_
 refine z3z rfl y9y rfl ?_
 refine y7y rfl rfl rfl (a7e c n l.proc (b3z fS) (by omega) fS.2.2.2.2.2.1) ?_
 refine y7y rfl rfl rfl (b7w c true l (a0u n l.proc)) ?_
 refine w6w rfl rfl ?_
 refine w6w rfl rfl ?_
 refine z2z rfl rfl z1z rfl rfl rfl rfl ?_
 refine x2x rfl ?_
 refine ⟨by kernel_rfl, ?_⟩
 refine y0y ⟨.inr rfl, ?_⟩
 exact ⟨_, _, rfl, .agg rfl (.cl rfl (.cl rfl (.cl rfl (.cl rfl (.cl rfl (.cl rfl (.cl rfl .nil))))))) (.cl rfl .nil)⟩
theorem b8x (c : Bool) (n : Nd) : a0o Tryz.prog 67 [.agg (a1d c n)] (.pv (.int .i64 (c1e n))) := by
 refine z4z x7x (fn := Tryz.f67) (by kernel_rfl) (by kernel_rfl) rfl (outs := [.pv (.int .i64 (c1e n))]) (by rfl) (Nat.le_of_ble_eq_true rfl) 2 ?_
 refine x4x x7x (by rfl) ?_
 refine v5v (id := 0) rfl rfl rfl ?_
 refine x2x rfl ?_
 refine x4x x7x (by rfl) ?_
 refine x2x rfl ?_
 refine x5x fun K1 hK1 => ?_
 refine x4x x7x (by rfl) ?_
 refine y1y rfl z5z rfl rfl rfl ?_
 refine y7y rfl rfl rfl (a8t ..) ?_
 refine w2w rfl ?_
 refine x8x rfl (fun hc2 => ?_) (fun hc2 => ?_)
 ·try simp at hc2
  have fX : ¬ a0r n := a4z (by simpa using hc2)
  refine x4x x7x (by rfl) ?_
  refine x2x rfl ?_
  refine y0y ⟨.inr rfl, ?_⟩
  clear hK1 K1
  refine z0z rfl ?_ rfl
  exact congrArg (fun v : Int => [AV.pv (.int .i64 v)]) (d1f fX).symm
 try simp at hc2
 have fK : a0r n := b0v.1 (by simpa using hc2)
 have fS := fK.1
 have fB := s6s fS
 refine x9x ?_
 refine hK1 _ _ ?_
 clear hK1 K1
 refine x5x fun K3 hK3 => ?_
 refine x4x x7x (by rfl) ?_
 refine x2x rfl ?_
 refine y6y ?_
 refine u4u (ι := Nat) (fun i γ1 => [(3, .pv (.int .i64 (a8p n i))), (4, .pv (.int .i64 (i : Int)))]) (fun i γ1 => [(1, ((γ1 1), .dead))]) (fun i => i ≤ n.lanes.length) (fun i => n.lanes.length - i) (Cov.cons (t := 1) rfl Cov.nil) (HE.same (id := 0) rfl HE.nil) 0 (by omega) [0, _] (Cov.cons (t := 3) rfl (Cov.cons (t := 4) rfl Cov.nil)) (HE.kill rfl HE.nil) rfl fun i γ1 hi => ?_
 try dsimp only [List.cons_append, List.nil_append]
 refine x5x fun K4 hK4 => ?_
 refine x4x x7x (by rfl) ?_
 refine x1x rfl ?_
 refine x0x rfl z5z rfl rfl w1w rfl rfl ?_
 refine x3x rfl w1w rfl rfl ?_
 refine u2u rfl w1w rfl ?_
 refine y3y rfl rfl rfl ?_
 refine x8x rfl (fun hc5 => ?_) (fun hc5 => ?_)
 rotate_left
 ·try simp at hc5
  obtain rfl : i = n.lanes.length := by omega
  refine v0v ?_
  refine hK3 _ _ ?_
  clear hK4 K4 hK3 K3
  refine x4x x7x (by rfl) ?_
  refine x1x rfl ?_
  refine x2x rfl ?_
  refine y0y ⟨.inr rfl, ?_⟩
  refine z0z rfl ?_ rfl
  exact congrArg (fun v : Int => [AV.pv (.int .i64 v)]) (c3s fK).symm
 try simp at hc5
 obtain ⟨l, hl⟩ : ∃ l, n.lanes[i]? = some l := ⟨_, List.getElem?_eq_getElem (by omega)⟩
 have hnc := c3t fK hl
 refine x9x ?_
 refine hK4 _ _ ?_
 clear hK4 K4
 refine x5x fun K6 hK6 => ?_
 refine y6y ?_
 refine x4x x7x (by rfl) ?_
 refine y1y rfl z5z rfl rfl rfl ?_
 refine x1x rfl ?_
 refine y7y rfl rfl rfl (b8w c n fS i l hl) ?_
 refine x1x rfl ?_
 refine w6w rfl rfl ?_
 refine w6w rfl rfl ?_
 refine u9u (id := 1) z1z a7o rfl ?_
 refine z2z rfl rfl z1z rfl rfl rfl rfl ?_
 refine x2x rfl ?_
 rw [c1b ⟨hnc.2.1, hnc.2.2.1⟩]
 refine x4x x7x (by rfl) ?_
 refine x1x rfl ?_
 refine x1x rfl ?_
 refine s9s rfl rfl (fun hg7 => ?_) (fun hg7 => ?_)
 rotate_left
 ·try simp at hg7
  have hno : ¬ ((a2f l (a0u n l.proc)).2 = true ∧ (a2f l (a0u n l.proc)).1.time < a8p n i) := fun h => by have := h.1; simp_all
  refine x6x rfl rfl ?_
  refine x6x rfl rfl ?_
  refine x6x rfl rfl ?_
  refine y2y rfl rfl ?_
  refine x8x rfl (fun hc9 => ?_) (fun hc9 => ?_)
  ·simp at hc9
  try simp at hc9
  have hno : ¬ ((a2f l (a0u n l.proc)).2 = true ∧ (a2f l (a0u n l.proc)).1.time < a8p n i) := by exact hno
  refine x9x ?_
  refine hK6 _ _ ?_
  clear hK6 K6
  refine y4y x7x (by rfl) ?_
  refine x1x rfl ?_
  refine u1u (b := 1) rfl rfl (by omega) ?_
  refine x2x rfl ?_
  exact ⟨i + 1, ⟨by omega, by omega⟩, [0, _], (Cov.cons' (t := 3) rfl (by exact congrArg (fun v : Int => AV.pv (.int .i64 v)) (c1d hl hno).symm) (Cov.cons (t := 4) rfl Cov.nil)), (Cov.cons (t := 1) rfl Cov.nil), (HE.kill rfl HE.nil), (HE.same (id := 0) rfl HE.nil), rfl⟩
 try simp at hg7
 have h2 : (a2f l (a0u n l.proc)).2 = true := by exact hg7
 refine x0x rfl z1z rfl rfl y9y rfl rfl ?_
 refine y5y rfl rfl ?_
 refine x3x rfl y9y rfl rfl ?_
 refine y5y rfl rfl ?_
 refine x1x rfl ?_
 refine y5y rfl rfl ?_
 refine y3y rfl rfl rfl ?_
 refine y8y rfl rfl ?_
 refine x8x rfl (fun hc8 => ?_) (fun hc8 => ?_)
 rotate_left
 ·try simp at hc8
  have hno : ¬ ((a2f l (a0u n l.proc)).2 = true ∧ (a2f l (a0u n l.proc)).1.time < a8p n i) := by (intro h; omega)
  refine x9x ?_
  refine hK6 _ _ ?_
  clear hK6 K6
  refine y4y x7x (by rfl) ?_
  refine x1x rfl ?_
  refine u1u (b := 1) rfl rfl (by omega) ?_
  refine x2x rfl ?_
  exact ⟨i + 1, ⟨by omega, by omega⟩, [0, _], (Cov.cons' (t := 3) rfl (by exact congrArg (fun v : Int => AV.pv (.int .i64 v)) (c1d hl hno).symm) (Cov.cons (t := 4) rfl Cov.nil)), (Cov.cons (t := 1) rfl Cov.nil), (HE.kill rfl HE.nil), (HE.same (id := 0) rfl HE.nil), rfl⟩
 try simp at hc8
 have h3 : (a2f l (a0u n l.proc)).1.time < a8p n i := by omega
 refine y4y x7x (by rfl) ?_
 refine x0x rfl z1z rfl rfl y9y rfl rfl ?_
 refine x3x rfl y9y rfl rfl ?_
 refine x2x rfl ?_
 refine hK6 _ _ ?_
 clear hK6 K6
 refine y4y x7x (by rfl) ?_
 refine x1x rfl ?_
 refine u1u (b := 1) rfl rfl (by omega) ?_
 refine x2x rfl ?_
 exact ⟨i + 1, ⟨by omega, by omega⟩, [0, _], (Cov.cons' (t := 3) rfl (by exact congrArg (fun v : Int => AV.pv (.int .i64 v)) (d1e hl ⟨h2, h3⟩).symm) (Cov.cons (t := 4) rfl Cov.nil)), (Cov.cons (t := 1) rfl Cov.nil), (HE.kill rfl HE.nil), (HE.same (id := 0) rfl HE.nil), rfl⟩
end
section
theorem a7f (c : Bool) (l : List Ou) (hl : l.length ≤ 1000000) : a0o Tryz.prog 116 [a0z c l] (a0z true (a1y l)) := by
 refine z4z x7x (fn := Tryz.f116) (by kernel_rfl) (by kernel_rfl) rfl (outs := [a0z true (a1y l)]) (by rfl) (Nat.le_of_ble_eq_true rfl) 6 ?_
 refine x4x x7x (by rfl) ?_
 refine x2x rfl ?_
 refine x4x x7x (by rfl) ?_
 refine r4r (id := 0) u7u rfl u0u rfl ?_
 refine x2x rfl ?_
 refine x5x fun K1 hK1 => ?_
 refine x4x x7x (by rfl) ?_
 refine x2x rfl ?_
 refine y6y ?_
 refine a0y (l := ([] : List Ou)) (f := r0r) 3 rfl rfl (fun _ => rfl) ?_
 refine u4u (ι := Nat) (fun i γ1 => [(3, a0z true (a1y (l.take i))), (4, .pv (.int .i64 (i : Int)))]) (fun i γ1 => [(1, ((γ1 1), .dead)), (2, ((γ1 2), .dead)), (3, ((γ1 3), .dead)), (4, ((γ1 4), .dead)), (5, ((γ1 5), .dead))]) (fun i => i ≤ l.length) (fun i => l.length - i) (Cov.cons (t := 0) rfl Cov.nil) (HE.same (id := 0) rfl HE.nil) 0 (by omega) [0, _, _, _, _, _] (Cov.cons' (t := 3) rfl (by rw [List.take_zero]; rfl) (Cov.cons (t := 4) rfl Cov.nil)) (HE.kill rfl (HE.kill rfl (HE.kill rfl (HE.kill rfl (HE.kill rfl HE.nil))))) rfl fun i γ1 hi => ?_
 try dsimp only [List.cons_append, List.nil_append]
 refine x5x fun K2 hK2 => ?_
 refine x4x x7x (by rfl) ?_
 refine x1x rfl ?_
 refine x1x rfl ?_
 refine u2u rfl u7u rfl ?_
 refine y3y rfl rfl rfl ?_
 refine x8x rfl (fun hc3 => ?_) (fun hc3 => ?_)
 rotate_left
 ·try simp at hc3
  obtain rfl : i = l.length := by omega
  refine v0v ?_
  refine hK1 _ _ ?_
  clear hK2 K2 hK1 K1
  refine x4x x7x (by rfl) ?_
  refine x1x rfl ?_
  refine x2x rfl ?_
  refine y0y ⟨.inr rfl, ?_⟩
  refine z0z rfl ?_ rfl
  exact congrArg (fun l : List Ou => [a0z true l]) (by rw [List.take_length])
 try simp at hc3
 obtain ⟨x, hx⟩ : ∃ x, l[i]? = some x := ⟨_, List.getElem?_eq_getElem (by omega)⟩
 have hol : (a1y (l.take i)).length ≤ 1000000 := by rw [b9r, List.length_take]; omega
 refine x9x ?_
 refine hK2 _ _ ?_
 clear hK2 K2
 refine x5x fun K4 hK4 => ?_
 refine y6y ?_
 refine x4x x7x (by rfl) ?_
 refine x1x rfl ?_
 refine u2u rfl u7u rfl ?_
 refine x2x rfl ?_
 refine a9l (ι := Nat) (fun k γ2 => [(5, .pv (.int .i64 (k : Int)))]) (fun k γ2 => []) (fun k => k ≤ (a1y (l.take i)).length ∧ (∀ (j : Nat) y, k ≤ j → (a1y (l.take i))[j]? = some y → a3c x y = true) ∧ (∀ y, 0 < k → (a1y (l.take i))[k - 1]? = some y → a3c x y = false)) (Cov.cons (t := 0) rfl (Cov.cons (t := 3) rfl (Cov.cons (t := 4) rfl Cov.nil))) (HE.same (id := 0) rfl (HE.same (id := 1) rfl (HE.same (id := 2) rfl (HE.same (id := 3) rfl (HE.same (id := 4) rfl (HE.same (id := 5) rfl HE.nil)))))) ?_ fun k γ2 hi => ?_
 ·refine y6y ?_
  refine u4u (ι := Nat) (fun k γ3 => [(5, .pv (.int .i64 (k : Int)))]) (fun k γ3 => []) (fun k => k ≤ (a1y (l.take i)).length ∧ (∀ (j : Nat) y, k ≤ j → (a1y (l.take i))[j]? = some y → a3c x y = true)) (fun k => k) (Cov.cons (t := 0) rfl (Cov.cons (t := 3) rfl (Cov.cons (t := 4) rfl Cov.nil))) (HE.same (id := 0) rfl (HE.same (id := 1) rfl (HE.same (id := 2) rfl (HE.same (id := 3) rfl (HE.same (id := 4) rfl (HE.same (id := 5) rfl HE.nil)))))) (a1y (l.take i)).length ⟨Nat.le_refl _, fun j y hj hy => by have := (List.getElem?_eq_some_iff.1 hy).1; omega⟩ [] (Cov.cons (t := 5) rfl Cov.nil) HE.nil rfl fun k γ3 hi => ?_
  try dsimp only [List.cons_append, List.nil_append]
  obtain ⟨k1, k2⟩ := hi
  refine x5x fun K5 hK5 => ?_
  refine p6p x7x r2r (by rfl) ?_
  refine x1x rfl ?_
  refine y3y rfl rfl rfl ?_
  refine x1x rfl ?_
  refine s9s rfl rfl (fun hg6 => ?_) (fun hg6 => ?_)
  rotate_left
  ·try simp at hg6
   have k0 : k = 0 := by omega
   refine x6x rfl rfl ?_
   refine x6x rfl rfl ?_
   refine x6x rfl rfl ?_
   refine x6x rfl rfl ?_
   refine x6x rfl rfl ?_
   refine x6x rfl rfl ?_
   refine x6x rfl rfl ?_
   refine x6x rfl rfl ?_
   refine x6x rfl rfl ?_
   refine y2y rfl rfl ?_
   refine ⟨by kernel_rfl, ?_⟩
   refine x8x rfl (fun hc8 => ?_) (fun hc8 => ?_)
   ·simp at hc8
   try simp at hc8
   try have hlt := hc8
   refine v0v ?_
   exact ⟨k, ⟨k1, k2, fun y2 h0 h2 => by omega⟩, [], (Cov.cons (t := 5) rfl Cov.nil), (Cov.cons (t := 0) rfl (Cov.cons (t := 3) rfl (Cov.cons (t := 4) rfl Cov.nil))), HE.nil, (HE.same (id := 0) rfl (HE.same (id := 1) rfl (HE.same (id := 2) rfl (HE.same (id := 3) rfl (HE.same (id := 4) rfl (HE.same (id := 5) rfl HE.nil)))))), rfl⟩
  try simp at hg6
  have k0 : 0 < k := by omega
  obtain ⟨y, hy⟩ : ∃ y, (a1y (l.take i))[k - 1]? = some y := ⟨_, List.getElem?_eq_getElem (by omega)⟩
  refine x1x rfl ?_
  refine y5y rfl rfl ?_
  refine x1x rfl ?_
  refine y5y rfl rfl ?_
  refine z7z rfl rfl u7u rfl u0u rfl hx ?_
  refine y5y rfl rfl ?_
  refine z6z rfl u0u rfl rfl ?_
  refine y5y rfl rfl ?_
  refine x1x rfl ?_
  refine y5y rfl rfl ?_
  refine x1x rfl ?_
  refine y5y rfl rfl ?_
  refine a0k (b := 1) rfl rfl (by omega) (by omega) ?_
  refine y5y rfl rfl ?_
  refine z7z rfl rfl u7u rfl u0u rfl hy ?_
  refine y5y rfl rfl ?_
  refine z6z rfl u0u rfl rfl ?_
  refine y5y rfl rfl ?_
  refine y7y rfl rfl rfl (b1e ..) ?_
  refine y8y rfl rfl ?_
  refine ⟨by kernel_rfl, ?_⟩
  refine x8x rfl (fun hc7 => ?_) (fun hc7 => ?_)
  rotate_left
  ·try simp at hc7
   try have hlt := hc7
   refine v0v ?_
   exact ⟨k, ⟨k1, k2, fun y2 h0 h2 => by (rw [hy] at h2; cases h2; exact hlt)⟩, [], (Cov.cons (t := 5) rfl Cov.nil), (Cov.cons (t := 0) rfl (Cov.cons (t := 3) rfl (Cov.cons (t := 4) rfl Cov.nil))), HE.nil, (HE.same (id := 0) rfl (HE.same (id := 1) rfl (HE.same (id := 2) rfl (HE.same (id := 3) rfl (HE.same (id := 4) rfl (HE.same (id := 5) rfl HE.nil)))))), rfl⟩
  try simp at hc7
  try have hlt := hc7
  refine x9x ?_
  refine hK5 _ _ ?_
  clear hK5 K5
  refine y6y ?_
  refine y4y x7x (by rfl) ?_
  refine x1x rfl ?_
  refine a0k (b := 1) rfl rfl (by omega) (by omega) ?_
  refine x2x rfl ?_
  exact ⟨k - 1, ⟨⟨by omega, fun j y2 hj hy2 => by by_cases hjk : j = k - 1; (subst hjk; rw [hy] at hy2; cases hy2; exact hlt); exact k2 j y2 (by omega) hy2⟩, by omega⟩, [], (Cov.cons (t := 5) rfl Cov.nil), (Cov.cons (t := 0) rfl (Cov.cons (t := 3) rfl (Cov.cons (t := 4) rfl Cov.nil))), HE.nil, (HE.same (id := 0) rfl (HE.same (id := 1) rfl (HE.same (id := 2) rfl (HE.same (id := 3) rfl (HE.same (id := 4) rfl (HE.same (id := 5) rfl HE.nil)))))), rfl⟩
 ·try dsimp only [List.cons_append, List.nil_append]
  obtain ⟨c1, c2, c3⟩ := hi
  have hin := (c5i hx).trans (d5u d5r (d1g _) c2 c3 c1)
  refine s3s x7x r2r (by rfl) ?_
  refine r4r (id := 1) u7u rfl u0u rfl ?_
  refine x1x rfl ?_
  refine x1x rfl ?_
  refine b5e rfl u7u rfl u0u rfl rfl rfl (by omega) (by omega) (by omega) ?_
  refine s1s (zs := ((a1y (l.take i)).take k).map r0r) rfl rfl u7u rfl u0u rfl rfl rfl (by exact r9r (fun _ => rfl) _) (by simp) (by (simp only [List.length_map, List.length_append, List.length_cons, List.length_nil, List.length_take, List.length_drop, T104]; omega)) ?_
  refine x1x rfl ?_
  refine x1x rfl ?_
  refine z7z rfl rfl u7u rfl u0u rfl hx ?_
  refine z6z rfl u0u rfl rfl ?_
  refine r6r (id := 3) u7u rfl u0u rfl rfl rfl rfl rfl rfl ?_
  refine r8r (zs := ((a1y (l.take i)).take k ++ [x]).map r0r) rfl rfl u7u rfl u0u rfl rfl rfl rfl (by rfl) (a0j _ _ _) (by (simp only [List.length_map, List.length_append, List.length_cons, List.length_nil, List.length_take, List.length_drop, T104]; omega)) ?_
  refine x1x rfl ?_
  refine x1x rfl ?_
  refine b5e rfl u7u rfl u0u rfl rfl rfl (by omega) (by (rw [List.length_map]; omega)) (by (rw [List.length_map]; omega)) ?_
  refine a9n x7x (zs := ((a1y (l.take i)).take k ++ x :: (a1y (l.take i)).drop k).map r0r) rfl rfl u7u rfl u0u rfl rfl rfl (by exact r9r (fun _ => rfl) _) (by simp) (by (simp only [List.length_map, List.length_append, List.length_cons, List.length_nil, List.length_take, List.length_drop, T104]; omega)) (Le.ow_map _ (fun _ => rfl) (fun _ => rfl)) ?_
  refine x2x rfl ?_
  refine ⟨by kernel_rfl, ?_⟩
  refine hK4 _ _ ?_
  clear hK4 K4
  refine y4y x7x (by rfl) ?_
  refine x1x rfl ?_
  refine u1u (b := 1) rfl rfl (by omega) ?_
  refine x2x rfl ?_
  exact ⟨i + 1, ⟨by omega, by omega⟩, [0, _, _, _, _, _], (Cov.cons' (t := 3) rfl (by rw [hin]; rfl) (Cov.cons (t := 4) rfl Cov.nil)), (Cov.cons (t := 0) rfl Cov.nil), (HE.kill rfl (HE.kill rfl (HE.kill rfl (HE.kill rfl (HE.kill rfl HE.nil))))), (HE.same (id := 0) rfl HE.nil), rfl⟩
end
section
theorem b4h (c : Bool) (l : La) (u : Int) (hok : a6v l = true) : a0o Tryz.prog 42 [.agg (a0m c l), .pv (.int .i64 u)] (.tup [.agg (a0m true (a9e u l)), a0i true (b2w u l), a0z true (b4r u l)]) := by
 refine z4z x7x (fn := Tryz.f42) (by kernel_rfl) (by kernel_rfl) rfl (outs := [.agg (a0m true (a9e u l)), a0i true (b2w u l), a0z true (b4r u l)]) (by rfl) (Nat.le_of_ble_eq_true rfl) 8 ?_
 obtain ⟨h1, h2⟩ := a2i hok
 have hlb := d7p hok
 refine x4x x7x (by rfl) ?_
 refine v5v (id := 0) rfl rfl rfl ?_
 refine u9u (id := 1) v2v a6u rfl ?_
 refine x2x rfl ?_
 refine x2x rfl ?_
 refine x4x x7x (by rfl) ?_
 refine r4r (id := 2) u6u rfl z1z rfl ?_
 refine x2x rfl ?_
 refine x4x x7x (by rfl) ?_
 refine r4r (id := 3) u7u rfl u0u rfl ?_
 refine x2x rfl ?_
 refine x5x fun K1 hK1 => ?_
 refine x4x x7x (by rfl) ?_
 refine y1y rfl v2v rfl rfl rfl ?_
 refine y7y rfl rfl rfl (a8s ..) ?_
 refine w2w rfl ?_
 refine x8x rfl (fun hc2 => ?_) (fun hc2 => ?_)
 ·simp [hok] at hc2
 try simp at hc2
 refine x9x ?_
 refine hK1 _ _ ?_
 clear hK1 K1
 refine x4x x7x (by rfl) ?_
 refine x2x rfl ?_
 refine x4x x7x (by rfl) ?_
 refine x0x rfl v2v rfl rfl p5p rfl rfl ?_
 refine x3x rfl p5p rfl rfl ?_
 refine u9u (id := 4) p5p d5b rfl ?_
 refine z2z rfl rfl p5p rfl rfl rfl rfl ?_
 refine x5x fun K3 hK3 => ?_
 refine y6y ?_
 refine u4u (ι := Nat) (fun i γ1 => [(7, .ref 2 (γ1 2)), (8, .ref 3 (γ1 3)), (9, .pv (.int .i64 (i : Int)))]) (fun i γ1 => [(2, ((γ1 2), .row 76 7 (((l.done.take i).flatMap Pa.sends).map w0w))), (3, ((γ1 3), .row 104 5 (((l.done.take i).flatMap Pa.outs).map r0r))), (4, ((0 + 1), .box 62 [pI (a8w l i).x, pI (a8w l i).y, pI (a8w l i).count])), (5, ((γ1 5), .dead)), (6, ((γ1 6), .dead))]) (fun i => i ≤ l.done.length ∧ (∀ (j : Nat) p, j < i → l.done[j]? = some p → p.ev.time < u)) (fun i => l.done.length - i) (Cov.cons (t := 1) rfl (Cov.cons (t := 2) rfl (Cov.cons (t := 4) rfl (Cov.cons (t := 10) rfl Cov.nil)))) (HE.same (id := 0) rfl (HE.same (id := 1) rfl (HE.same (id := 7) rfl HE.nil))) 0 ⟨by omega, fun j p hj => by omega⟩ [0, 0, _, _, 0, _, _] (Cov.cons (t := 7) rfl (Cov.cons (t := 8) rfl (Cov.cons (t := 9) rfl Cov.nil))) (HE.row rfl (by rfl) (HE.row rfl (by rfl) (HE.box rfl rfl (HE.kill rfl (HE.kill rfl HE.nil))))) rfl fun i γ1 hi => ?_
 try dsimp only [List.cons_append, List.nil_append]
 obtain ⟨k1, k2⟩ := hi
 refine x5x fun K4 hK4 => ?_
 refine x4x x7x (by rfl) ?_
 refine x1x rfl ?_
 refine x0x rfl v2v rfl rfl v3v rfl rfl ?_
 refine x3x rfl v3v rfl rfl ?_
 refine u2u rfl v3v rfl ?_
 refine y3y rfl rfl rfl ?_
 refine x1x rfl ?_
 refine s9s rfl rfl (fun hg5 => ?_) (fun hg5 => ?_)
 rotate_left
 ·try simp at hg5
  have hcut : b8h u l.done = i := b7c k1 k2 (fun q hq => by rw [List.getElem?_eq_none (by omega)] at hq; cases hq)
  refine x6x rfl rfl ?_
  refine x6x rfl rfl ?_
  refine x6x rfl rfl ?_
  refine x6x rfl rfl ?_
  refine x6x rfl rfl ?_
  refine x6x rfl rfl ?_
  refine x6x rfl rfl ?_
  refine x6x rfl rfl ?_
  refine y2y rfl rfl ?_
  refine x8x rfl (fun hc7 => ?_) (fun hc7 => ?_)
  ·simp [hok] at hc7
  try simp at hc7
  have hcut : b8h u l.done = i := by exact hcut
  have hfs := a3m (f := Pa.sends) (m := 2) k1 fun p hp => (h2 p hp).1
  have hfo := a3m (f := Pa.outs) (m := 2) k1 fun p hp => (h2 p hp).2
  refine v0v ?_
  refine hK3 _ _ ?_
  clear hK4 K4 hK3 K3
  refine x4x x7x (by rfl) ?_
  refine y1y rfl v2v rfl rfl rfl ?_
  refine x1x rfl ?_
  refine x0x rfl v2v rfl rfl v3v rfl rfl ?_
  refine x3x rfl v3v rfl rfl ?_
  refine u2u rfl v3v rfl ?_
  refine y7y rfl rfl rfl (a4d c l i l.done.length hlb.1 (by omega) hlb.1 hlb.2) ?_
  refine u9u (id := 7) v2v a6u rfl ?_
  refine z2z rfl rfl v2v rfl rfl rfl rfl ?_
  refine x4x x7x (by rfl) ?_
  refine y1y rfl p5p rfl rfl rfl ?_
  refine x0x rfl v2v rfl rfl p5p rfl rfl ?_
  refine a1g rfl rfl p5p rfl rfl rfl rfl (Nat.le_of_ble_eq_true rfl) rfl ?_
  refine a0y 7 rfl rfl (fun _ => rfl) ?_
  refine a0y 8 rfl rfl (fun _ => rfl) ?_
  refine p6p x7x r2r (by rfl) ?_
  refine y1y rfl v2v rfl rfl rfl ?_
  refine x1x rfl ?_
  refine y7y rfl rfl rfl (a3b true _ (by omega)) ?_
  refine x1x rfl ?_
  refine y7y rfl rfl rfl (a7f true _ (by omega)) ?_
  refine z2z rfl rfl v2v rfl rfl rfl rfl ?_
  refine x2x rfl ?_
  refine x2x rfl ?_
  refine ⟨by kernel_rfl, ?_⟩
  refine y0y ⟨.inr rfl, ?_⟩
  subst hcut
  rw [show a9e u l = ⟨l.proc, a8w l (b8h u l.done), (l.done.take l.done.length).drop (b8h u l.done)⟩ from by rw [List.take_length]; rfl]
  exact ⟨_, _, rfl, .agg rfl (.cl rfl (.cl rfl (.cl rfl (.cl rfl (.cl rfl .nil))))) (.cl rfl (.cl rfl .nil))⟩
 try simp at hg5
 obtain ⟨p, hp⟩ : ∃ p, l.done[i]? = some p := ⟨_, List.getElem?_eq_getElem (by omega)⟩
 have hpb := h2 p (List.mem_of_getElem? hp)
 refine x0x rfl v2v rfl rfl v3v rfl rfl ?_
 refine y5y rfl rfl ?_
 refine x3x rfl v3v rfl rfl ?_
 refine y5y rfl rfl ?_
 refine x1x rfl ?_
 refine y5y rfl rfl ?_
 refine z7z rfl rfl v3v rfl v8v rfl hp ?_
 refine y5y rfl rfl ?_
 refine x0x rfl v8v rfl rfl z1z rfl rfl ?_
 refine y5y rfl rfl ?_
 refine x0x rfl z1z rfl rfl y9y rfl rfl ?_
 refine y5y rfl rfl ?_
 refine z3z rfl y9y rfl ?_
 refine y5y rfl rfl ?_
 refine x1x rfl ?_
 refine y5y rfl rfl ?_
 refine y3y rfl rfl rfl ?_
 refine y8y rfl rfl ?_
 refine x8x rfl (fun hc6 => ?_) (fun hc6 => ?_)
 rotate_left
 ·try simp at hc6
  have hcut : b8h u l.done = i := by exact b7c k1 k2 (fun q hq => by rw [hp] at hq; cases hq; omega)
  have hfs := a3m (f := Pa.sends) (m := 2) k1 fun p hp => (h2 p hp).1
  have hfo := a3m (f := Pa.outs) (m := 2) k1 fun p hp => (h2 p hp).2
  refine v0v ?_
  refine hK3 _ _ ?_
  clear hK4 K4 hK3 K3
  refine x4x x7x (by rfl) ?_
  refine y1y rfl v2v rfl rfl rfl ?_
  refine x1x rfl ?_
  refine x0x rfl v2v rfl rfl v3v rfl rfl ?_
  refine x3x rfl v3v rfl rfl ?_
  refine u2u rfl v3v rfl ?_
  refine y7y rfl rfl rfl (a4d c l i l.done.length hlb.1 (by omega) hlb.1 hlb.2) ?_
  refine u9u (id := 7) v2v a6u rfl ?_
  refine z2z rfl rfl v2v rfl rfl rfl rfl ?_
  refine x4x x7x (by rfl) ?_
  refine y1y rfl p5p rfl rfl rfl ?_
  refine x0x rfl v2v rfl rfl p5p rfl rfl ?_
  refine a1g rfl rfl p5p rfl rfl rfl rfl (Nat.le_of_ble_eq_true rfl) rfl ?_
  refine a0y 7 rfl rfl (fun _ => rfl) ?_
  refine a0y 8 rfl rfl (fun _ => rfl) ?_
  refine p6p x7x r2r (by rfl) ?_
  refine y1y rfl v2v rfl rfl rfl ?_
  refine x1x rfl ?_
  refine y7y rfl rfl rfl (a3b true _ (by omega)) ?_
  refine x1x rfl ?_
  refine y7y rfl rfl rfl (a7f true _ (by omega)) ?_
  refine z2z rfl rfl v2v rfl rfl rfl rfl ?_
  refine x2x rfl ?_
  refine x2x rfl ?_
  refine ⟨by kernel_rfl, ?_⟩
  refine y0y ⟨.inr rfl, ?_⟩
  subst hcut
  rw [show a9e u l = ⟨l.proc, a8w l (b8h u l.done), (l.done.take l.done.length).drop (b8h u l.done)⟩ from by rw [List.take_length]; rfl]
  exact ⟨_, _, rfl, .agg rfl (.cl rfl (.cl rfl (.cl rfl (.cl rfl (.cl rfl .nil))))) (.cl rfl (.cl rfl .nil))⟩
 try simp at hc6
 have hlt : p.ev.time < u := by exact hc6
 have hfs := a3m (f := Pa.sends) (m := 2) (show i ≤ l.done.length by omega) fun p hp => (h2 p hp).1
 have hfo := a3m (f := Pa.outs) (m := 2) (show i ≤ l.done.length by omega) fun p hp => (h2 p hp).2
 refine x9x ?_
 refine hK4 _ _ ?_
 clear hK4 K4
 refine y6y ?_
 refine x4x x7x (by rfl) ?_
 refine x0x rfl v2v rfl rfl v3v rfl rfl ?_
 refine x3x rfl v3v rfl rfl ?_
 refine x1x rfl ?_
 refine z7z rfl rfl v3v rfl v8v rfl hp ?_
 refine x0x rfl v8v rfl rfl p5p rfl rfl ?_
 refine z3z (out := .agg (a0b p.after)) rfl p5p rfl ?_
 refine z2z rfl rfl p5p rfl rfl rfl rfl ?_
 refine x4x x7x (by rfl) ?_
 refine x1x rfl ?_
 refine x0x rfl v2v rfl rfl v3v rfl rfl ?_
 refine x3x rfl v3v rfl rfl ?_
 refine x1x rfl ?_
 refine z7z rfl rfl v3v rfl v8v rfl hp ?_
 refine x0x rfl v8v rfl rfl u6u rfl rfl ?_
 refine z3z rfl u6u rfl ?_
 refine s1s (zs := ((l.done.take i).flatMap Pa.sends ++ p.sends).map w0w) rfl rfl u6u rfl z1z rfl rfl rfl (by exact r9r (fun _ => rfl) _) (a4n _ _ _) (by (simp only [List.length_map, List.length_append, List.length_cons, List.length_nil, List.length_take, List.length_drop, T76]; omega)) ?_
 refine x2x rfl ?_
 refine x4x x7x (by rfl) ?_
 refine x1x rfl ?_
 refine x0x rfl v2v rfl rfl v3v rfl rfl ?_
 refine x3x rfl v3v rfl rfl ?_
 refine x1x rfl ?_
 refine z7z rfl rfl v3v rfl v8v rfl hp ?_
 refine x0x rfl v8v rfl rfl u7u rfl rfl ?_
 refine z3z rfl u7u rfl ?_
 refine s1s (zs := ((l.done.take i).flatMap Pa.outs ++ p.outs).map r0r) rfl rfl u7u rfl u0u rfl rfl rfl (by exact r9r (fun _ => rfl) _) (a4n _ _ _) (by (simp only [List.length_map, List.length_append, List.length_cons, List.length_nil, List.length_take, List.length_drop, T104]; omega)) ?_
 refine x2x rfl ?_
 refine y4y x7x (by rfl) ?_
 refine x1x rfl ?_
 refine u1u (b := 1) rfl rfl (by omega) ?_
 refine x2x rfl ?_
 exact ⟨i + 1, ⟨⟨by omega, fun j q hj hq => by by_cases e : j = i; (subst e; rw [hp] at hq; cases hq; exact hlt); exact k2 j q (by omega) hq⟩, by omega⟩, [0, 0, _, _, 0, _, _], (Cov.cons (t := 7) rfl (Cov.cons (t := 8) rfl (Cov.cons (t := 9) rfl Cov.nil))), (Cov.cons (t := 1) rfl (Cov.cons (t := 2) rfl (Cov.cons (t := 4) rfl (Cov.cons (t := 10) rfl Cov.nil)))), (HE.row rfl (by rw [a2v hp]) (HE.row rfl (by rw [a2v hp]) (HE.box rfl (by rw [b7e hp]; rfl) (HE.kill rfl (HE.kill rfl HE.nil))))), (HE.same (id := 0) rfl (HE.same (id := 1) rfl (HE.same (id := 7) rfl HE.nil))), rfl⟩
end
section
set_option maxHeartbeats 1000000 in
theorem b4i (c : Bool) (n : Nd) (r g : Int) : a0o Tryz.prog 39 [.agg (a1d c n), .pv (.int .i64 r), .pv (.int .i64 g)] (.tup [.agg (a1d true (v7v n r g).1), .pv (.bool (v7v n r g).2)]) := by
 refine z4z x7x (fn := Tryz.f39) (by kernel_rfl) (by kernel_rfl) rfl (outs := [.agg (a1d true (v7v n r g).1), .pv (.bool (v7v n r g).2)]) (by rfl) (Nat.le_of_ble_eq_true rfl) 19 ?_
 refine x4x x7x (by rfl) ?_
 refine v5v (id := 0) rfl rfl rfl ?_
 refine u9u (id := 1) z5z a6g rfl ?_
 refine x2x rfl ?_
 refine x5x fun K1 hK1 => ?_
 refine x4x x7x (by rfl) ?_
 refine y1y rfl z5z rfl rfl rfl ?_
 refine y7y rfl rfl rfl (a8t c n) ?_
 refine w2w rfl ?_
 refine x8x rfl (fun hc2 => ?_) (fun hc2 => ?_)
 ·try simp at hc2
  have fX : ¬ a0r n := a4z (by simpa using hc2)
  refine x4x x7x (by rfl) ?_
  refine s5s z5z rfl a6g rfl (by simp only [pI, y9y, T3, b4p, T4, p3p, T22, w1w, T23, u6u, T24, u7u, T25, p8p, T26, a2g, q9q, AV.okc, AV.one, Value.oneCell', List.map_cons, List.map_nil, List.getElem?_cons_zero, List.getElem?_cons_succ, List.take_succ_cons, List.take_zero, List.drop_succ_cons, List.drop_zero, List.cons_append, List.nil_append, List.length_cons, List.length_nil, if_true, and_self, Nat.reduceAdd, Nat.reduceLeDiff]; rfl) ?_
  refine z2z rfl rfl z5z rfl rfl rfl rfl ?_
  refine x2x rfl ?_
  refine y0y ⟨.inr rfl, ?_⟩
  clear hK1 K1
  (rw [c6t fX]; exact ⟨_, _, rfl, d6e (.cl rfl .nil)⟩)
 try simp at hc2
 have fK : a0r n := b0v.1 (by simpa using hc2)
 have fS := fK.1
 have fB := s6s fS
 have fV := fS.2.2.2.2.2.1
 have fb := d7q fS
 have fM0 := c3s fK
 have fL := b7j fS
 have fG := fS.1.2.2.1
 refine x9x ?_
 refine hK1 _ _ ?_
 clear hK1 K1
 refine x4x x7x (by rfl) ?_
 refine y1y rfl z5z rfl rfl rfl ?_
 refine v4v [13, 14, 15] [_, _, _] (a4w c n fb) rfl rfl rfl (by decide) rfl rfl (by repeat (first | exact InH.nil | refine InH.cons rfl ?_)) (by (simp only [pI, List.map_cons, List.map_nil, z8z, z9z, gl, nx, p4p, Nat.beq, Nat.add_eq, List.getD_cons_zero, List.getD_cons_succ, List.getD_nil, Bool.or_false, Bool.false_or, Bool.true_or, Bool.or_true, Nat.add_zero, Nat.zero_add]; rfl)) (by (simp only [pI, List.map_cons, List.map_nil, z8z, z9z, gl, nx, p4p, Nat.beq, Nat.add_eq, List.getD_cons_zero, List.getD_cons_succ, List.getD_nil, Bool.or_false, Bool.false_or, Bool.true_or, Bool.or_true, Nat.add_zero, Nat.zero_add]; rfl)) ?_
 refine u9u (id := 2) z5z a6g rfl ?_
 refine z2z rfl rfl z5z rfl rfl rfl rfl ?_
 refine x5x fun K3 hK3 => ?_
 refine p6p x7x r2r (by rfl) ?_
 refine x0x rfl z5z rfl rfl b4p rfl rfl ?_
 refine x3x rfl b4p rfl rfl ?_
 refine w2w rfl ?_
 refine x1x rfl ?_
 refine s9s rfl rfl (fun hg4 => ?_) (fun hg4 => ?_)
 rotate_left
 ·try simp at hg4
  have fU : ¬ a0h n r g := by (rintro ⟨m1, m2, m3, m4, m5, m6, m7, m8⟩; (simp_all; done))
  refine x6x rfl rfl ?_
  refine y8y rfl rfl ?_
  refine x1x rfl ?_
  refine x6x rfl rfl ?_
  refine x6x rfl rfl ?_
  refine x6x rfl rfl ?_
  refine x6x rfl rfl ?_
  refine y8y rfl rfl ?_
  refine x1x rfl ?_
  refine x6x rfl rfl ?_
  refine x6x rfl rfl ?_
  refine x6x rfl rfl ?_
  refine x6x rfl rfl ?_
  refine x6x rfl rfl ?_
  refine x6x rfl rfl ?_
  refine y8y rfl rfl ?_
  refine x1x rfl ?_
  refine x6x rfl rfl ?_
  refine x6x rfl rfl ?_
  refine x6x rfl rfl ?_
  refine x6x rfl rfl ?_
  refine y8y rfl rfl ?_
  refine x1x rfl ?_
  refine x6x rfl rfl ?_
  refine x6x rfl rfl ?_
  refine x6x rfl rfl ?_
  refine x6x rfl rfl ?_
  refine y8y rfl rfl ?_
  refine x1x rfl ?_
  refine x6x rfl rfl ?_
  refine x6x rfl rfl ?_
  refine x6x rfl rfl ?_
  refine x6x rfl rfl ?_
  refine y8y rfl rfl ?_
  refine ⟨by kernel_rfl, ?_⟩
  refine x8x rfl (fun hc27 => ?_) (fun hc27 => ?_)
  rotate_left
  ·simp at hc27
  try simp at hc27
  have fU : ¬ a0h n r g := by exact fU
  refine x4x x7x (by rfl) ?_
  refine y1y rfl z5z rfl rfl rfl ?_
  refine z2z rfl rfl z5z rfl rfl rfl rfl ?_
  refine x2x rfl ?_
  refine y0y ⟨.inr rfl, ?_⟩
  clear hK3 K3
  (rw [a1m fK fU]; exact ⟨_, _, rfl, b2z (n := n) rfl rfl rfl (.cl rfl .nil)⟩)
 try simp at hg4
 have fUp : n.up = true := by exact hg4
 refine x1x rfl ?_
 refine y5y rfl rfl ?_
 refine y3y rfl rfl rfl ?_
 refine y2y rfl rfl ?_
 refine x1x rfl ?_
 refine s9s rfl rfl (fun hg5 => ?_) (fun hg5 => ?_)
 rotate_left
 ·try simp at hg5
  have fU : ¬ a0h n r g := by (rintro ⟨m1, m2, m3, m4, m5, m6, m7, m8⟩; omega)
  refine x6x rfl rfl ?_
  refine x6x rfl rfl ?_
  refine x6x rfl rfl ?_
  refine y8y rfl rfl ?_
  refine x1x rfl ?_
  refine x6x rfl rfl ?_
  refine x6x rfl rfl ?_
  refine x6x rfl rfl ?_
  refine x6x rfl rfl ?_
  refine x6x rfl rfl ?_
  refine x6x rfl rfl ?_
  refine y8y rfl rfl ?_
  refine x1x rfl ?_
  refine x6x rfl rfl ?_
  refine x6x rfl rfl ?_
  refine x6x rfl rfl ?_
  refine x6x rfl rfl ?_
  refine y8y rfl rfl ?_
  refine x1x rfl ?_
  refine x6x rfl rfl ?_
  refine x6x rfl rfl ?_
  refine x6x rfl rfl ?_
  refine x6x rfl rfl ?_
  refine y8y rfl rfl ?_
  refine x1x rfl ?_
  refine x6x rfl rfl ?_
  refine x6x rfl rfl ?_
  refine x6x rfl rfl ?_
  refine x6x rfl rfl ?_
  refine y8y rfl rfl ?_
  refine ⟨by kernel_rfl, ?_⟩
  refine x8x rfl (fun hc26 => ?_) (fun hc26 => ?_)
  rotate_left
  ·simp at hc26
  try simp at hc26
  have fU : ¬ a0h n r g := by exact fU
  refine x4x x7x (by rfl) ?_
  refine y1y rfl z5z rfl rfl rfl ?_
  refine z2z rfl rfl z5z rfl rfl rfl rfl ?_
  refine x2x rfl ?_
  refine y0y ⟨.inr rfl, ?_⟩
  clear hK3 K3
  (rw [a1m fK fU]; exact ⟨_, _, rfl, b2z (n := n) rfl rfl rfl (.cl rfl .nil)⟩)
 try simp at hg5
 refine x0x rfl z5z rfl rfl y9y rfl rfl ?_
 refine y5y rfl rfl ?_
 refine x3x rfl y9y rfl rfl ?_
 refine y5y rfl rfl ?_
 refine x1x rfl ?_
 refine y5y rfl rfl ?_
 refine y3y rfl rfl rfl ?_
 refine y2y rfl rfl ?_
 refine x1x rfl ?_
 refine s9s rfl rfl (fun hg6 => ?_) (fun hg6 => ?_)
 rotate_left
 ·try simp at hg6
  have fU : ¬ a0h n r g := by (rintro ⟨m1, m2, m3, m4, m5, m6, m7, m8⟩; omega)
  refine x6x rfl rfl ?_
  refine x6x rfl rfl ?_
  refine x6x rfl rfl ?_
  refine x6x rfl rfl ?_
  refine x6x rfl rfl ?_
  refine y8y rfl rfl ?_
  refine x1x rfl ?_
  refine x6x rfl rfl ?_
  refine x6x rfl rfl ?_
  refine x6x rfl rfl ?_
  refine x6x rfl rfl ?_
  refine y8y rfl rfl ?_
  refine x1x rfl ?_
  refine x6x rfl rfl ?_
  refine x6x rfl rfl ?_
  refine x6x rfl rfl ?_
  refine x6x rfl rfl ?_
  refine y8y rfl rfl ?_
  refine x1x rfl ?_
  refine x6x rfl rfl ?_
  refine x6x rfl rfl ?_
  refine x6x rfl rfl ?_
  refine x6x rfl rfl ?_
  refine y8y rfl rfl ?_
  refine ⟨by kernel_rfl, ?_⟩
  refine x8x rfl (fun hc25 => ?_) (fun hc25 => ?_)
  rotate_left
  ·simp at hc25
  try simp at hc25
  have fU : ¬ a0h n r g := by exact fU
  refine x4x x7x (by rfl) ?_
  refine y1y rfl z5z rfl rfl rfl ?_
  refine z2z rfl rfl z5z rfl rfl rfl rfl ?_
  refine x2x rfl ?_
  refine y0y ⟨.inr rfl, ?_⟩
  clear hK3 K3
  (rw [a1m fK fU]; exact ⟨_, _, rfl, b2z (n := n) rfl rfl rfl (.cl rfl .nil)⟩)
 try simp at hg6
 refine x1x rfl ?_
 refine y5y rfl rfl ?_
 refine x0x rfl z5z rfl rfl y9y rfl rfl ?_
 refine y5y rfl rfl ?_
 refine x3x rfl y9y rfl rfl ?_
 refine y5y rfl rfl ?_
 refine a2m (.int .i64 (n.g + 1)) rfl rfl rfl (b0n rfl rfl (by omega) (by omega)) ?_
 refine y5y rfl rfl ?_
 refine y7y rfl rfl rfl (q3q ..) ?_
 refine y5y rfl rfl ?_
 refine w2w rfl ?_
 refine y2y rfl rfl ?_
 refine x1x rfl ?_
 refine s9s rfl rfl (fun hg7 => ?_) (fun hg7 => ?_)
 rotate_left
 ·try simp at hg7
  have fU : ¬ a0h n r g := by (rintro ⟨m1, m2, m3, m4, m5, m6, m7, m8⟩; omega)
  refine x6x rfl rfl ?_
  refine x6x rfl rfl ?_
  refine x6x rfl rfl ?_
  refine y8y rfl rfl ?_
  refine x1x rfl ?_
  refine x6x rfl rfl ?_
  refine x6x rfl rfl ?_
  refine x6x rfl rfl ?_
  refine x6x rfl rfl ?_
  refine y8y rfl rfl ?_
  refine x1x rfl ?_
  refine x6x rfl rfl ?_
  refine x6x rfl rfl ?_
  refine x6x rfl rfl ?_
  refine x6x rfl rfl ?_
  refine y8y rfl rfl ?_
  refine ⟨by kernel_rfl, ?_⟩
  refine x8x rfl (fun hc24 => ?_) (fun hc24 => ?_)
  rotate_left
  ·simp at hc24
  try simp at hc24
  have fU : ¬ a0h n r g := by exact fU
  refine x4x x7x (by rfl) ?_
  refine y1y rfl z5z rfl rfl rfl ?_
  refine z2z rfl rfl z5z rfl rfl rfl rfl ?_
  refine x2x rfl ?_
  refine y0y ⟨.inr rfl, ?_⟩
  clear hK3 K3
  (rw [a1m fK fU]; exact ⟨_, _, rfl, b2z (n := n) rfl rfl rfl (.cl rfl .nil)⟩)
 try simp at hg7
 refine x0x rfl z5z rfl rfl y9y rfl rfl ?_
 refine y5y rfl rfl ?_
 refine x3x rfl y9y rfl rfl ?_
 refine y5y rfl rfl ?_
 refine x1x rfl ?_
 refine y5y rfl rfl ?_
 refine y3y rfl rfl rfl ?_
 refine y2y rfl rfl ?_
 refine x1x rfl ?_
 refine s9s rfl rfl (fun hg8 => ?_) (fun hg8 => ?_)
 rotate_left
 ·try simp at hg8
  have fU : ¬ a0h n r g := by (rintro ⟨m1, m2, m3, m4, m5, m6, m7, m8⟩; omega)
  refine x6x rfl rfl ?_
  refine x6x rfl rfl ?_
  refine x6x rfl rfl ?_
  refine y8y rfl rfl ?_
  refine x1x rfl ?_
  refine x6x rfl rfl ?_
  refine x6x rfl rfl ?_
  refine x6x rfl rfl ?_
  refine x6x rfl rfl ?_
  refine y8y rfl rfl ?_
  refine ⟨by kernel_rfl, ?_⟩
  refine x8x rfl (fun hc23 => ?_) (fun hc23 => ?_)
  rotate_left
  ·simp at hc23
  try simp at hc23
  have fU : ¬ a0h n r g := by exact fU
  refine x4x x7x (by rfl) ?_
  refine y1y rfl z5z rfl rfl rfl ?_
  refine z2z rfl rfl z5z rfl rfl rfl rfl ?_
  refine x2x rfl ?_
  refine y0y ⟨.inr rfl, ?_⟩
  clear hK3 K3
  (rw [a1m fK fU]; exact ⟨_, _, rfl, b2z (n := n) rfl rfl rfl (.cl rfl .nil)⟩)
 try simp at hg8
 refine y1y rfl z5z rfl rfl rfl ?_
 refine y5y rfl rfl ?_
 refine y7y rfl rfl rfl (b8x c n) ?_
 refine y5y rfl rfl ?_
 refine x1x rfl ?_
 refine y5y rfl rfl ?_
 refine y3y rfl rfl rfl ?_
 refine y2y rfl rfl ?_
 refine x1x rfl ?_
 refine s9s rfl rfl (fun hg9 => ?_) (fun hg9 => ?_)
 rotate_left
 ·try simp at hg9
  have fU : ¬ a0h n r g := by (rintro ⟨m1, m2, m3, m4, m5, m6, m7, m8⟩; omega)
  refine x6x rfl rfl ?_
  refine x6x rfl rfl ?_
  refine x6x rfl rfl ?_
  refine y8y rfl rfl ?_
  refine ⟨by kernel_rfl, ?_⟩
  refine x8x rfl (fun hc22 => ?_) (fun hc22 => ?_)
  rotate_left
  ·simp at hc22
  try simp at hc22
  have fU : ¬ a0h n r g := by exact fU
  refine x4x x7x (by rfl) ?_
  refine y1y rfl z5z rfl rfl rfl ?_
  refine z2z rfl rfl z5z rfl rfl rfl rfl ?_
  refine x2x rfl ?_
  refine y0y ⟨.inr rfl, ?_⟩
  clear hK3 K3
  (rw [a1m fK fU]; exact ⟨_, _, rfl, b2z (n := n) rfl rfl rfl (.cl rfl .nil)⟩)
 try simp at hg9
 refine x0x rfl z5z rfl rfl y9y rfl rfl ?_
 refine y5y rfl rfl ?_
 refine x3x rfl y9y rfl rfl ?_
 refine y5y rfl rfl ?_
 refine y7y rfl rfl rfl (a1n ..) ?_
 refine y5y rfl rfl ?_
 refine y3y rfl rfl rfl ?_
 refine y2y rfl rfl ?_
 refine ⟨by kernel_rfl, ?_⟩
 refine x8x rfl (fun hc10 => ?_) (fun hc10 => ?_)
 ·try simp at hc10
  have fU : ¬ a0h n r g := by (rintro ⟨m1, m2, m3, m4, m5, m6, m7, m8⟩; omega)
  refine x4x x7x (by rfl) ?_
  refine y1y rfl z5z rfl rfl rfl ?_
  refine z2z rfl rfl z5z rfl rfl rfl rfl ?_
  refine x2x rfl ?_
  refine y0y ⟨.inr rfl, ?_⟩
  clear hK3 K3
  (rw [a1m fK fU]; exact ⟨_, _, rfl, b2z (n := n) rfl rfl rfl (.cl rfl .nil)⟩)
 try simp at hc10
 have fM : a0h n r g := ⟨fUp, by omega, by omega, by omega, by omega, by omega, by omega, by omega⟩
 obtain ⟨k, hk, hk3, hkn⟩ := d4j fS
 have hkl := fS.2.2.2.2.2.2.1
 obtain ⟨kn, hkv⟩ : ∃ kn, n.known[k]? = some kn := ⟨_, List.getElem?_eq_getElem (by omega)⟩
 have hKk : n.known.set n.id.toNat g = n.known.set k g := by rw [hkn]
 refine x9x ?_
 refine hK3 _ _ ?_
 clear hK3 K3
 refine x4x x7x (by rfl) ?_
 refine x0x rfl z5z rfl rfl u6u rfl rfl ?_
 refine x3x rfl u6u rfl rfl ?_
 refine x2x rfl ?_
 refine x4x x7x (by rfl) ?_
 refine x0x rfl z5z rfl rfl u7u rfl rfl ?_
 refine x3x rfl u7u rfl rfl ?_
 refine x2x rfl ?_
 refine x5x fun K11 hK11 => ?_
 refine x4x x7x (by rfl) ?_
 refine x2x rfl ?_
 refine y6y ?_
 refine u4u (ι := Nat) (fun i γ1 => [(9, a0i c (a1q n g i)), (10, a0z c (a6q n g i)), (11, .pv (.int .i64 (i : Int)))]) (fun i γ1 => [(13, ((0 + 1), .row 65 5 ((a9f g n.lanes i).map (a0m true)))), (3, ((γ1 3), .dead)), (4, ((γ1 4), .dead)), (5, ((γ1 5), .dead)), (6, ((γ1 6), .dead)), (7, ((γ1 7), .dead)), (8, ((γ1 8), .dead)), (9, ((γ1 9), .dead))]) (fun i => i ≤ n.lanes.length) (fun i => n.lanes.length - i) (Cov.cons (t := 2) rfl (Cov.cons (t := 3) rfl (Cov.cons (t := 6) rfl (Cov.cons (t := 8) rfl Cov.nil)))) (HE.same (id := 0) rfl (HE.same (id := 1) rfl (HE.same (id := 2) rfl (HE.same (id := 10) rfl (HE.same (id := 11) rfl (HE.same (id := 12) rfl (HE.same (id := 14) rfl (HE.same (id := 15) rfl (HE.same (id := 16) rfl (HE.same (id := 17) rfl (HE.same (id := 18) rfl HE.nil))))))))))) 0 (by omega) [0, 0, 0, _, _, _, _, _, _, _] (Cov.cons' (t := 9) rfl (by rw [b7h]) (Cov.cons' (t := 10) rfl (by rw [b7i]) (Cov.cons (t := 11) rfl Cov.nil))) (HE.row rfl (by rw [b4c]) (HE.kill rfl (HE.kill rfl (HE.kill rfl (HE.kill rfl (HE.kill rfl (HE.kill rfl (HE.kill rfl HE.nil)))))))) rfl fun i γ1 hi => ?_
 try dsimp only [List.cons_append, List.nil_append]
 refine x5x fun K12 hK12 => ?_
 refine x4x x7x (by rfl) ?_
 refine x1x rfl ?_
 refine x0x rfl z5z rfl rfl w1w rfl rfl ?_
 refine x3x rfl w1w rfl rfl ?_
 refine u2u rfl w1w rfl ?_
 refine y3y rfl rfl rfl ?_
 refine x8x rfl (fun hc13 => ?_) (fun hc13 => ?_)
 ·try simp at hc13
  obtain ⟨l, hp⟩ : ∃ l, n.lanes[i]? = some l := ⟨_, List.getElem?_eq_getElem (by omega)⟩
  have hkt := b2x fS g (i + 1)
  rw [a8q hp, List.length_append] at hkt
  have hot := b2y fS g (i + 1)
  rw [a8r hp, List.length_append] at hot
  have hlt2 : i < (a9f g n.lanes i).length := by rw [c3u _ _ (by omega)]; omega
  have hll := fL l (List.mem_of_getElem? hp)
  refine x9x ?_
  refine hK12 _ _ ?_
  clear hK12 K12
  refine x5x fun K14 hK14 => ?_
  refine y6y ?_
  refine x4x x7x (by rfl) ?_
  refine x0x rfl z5z rfl rfl w1w rfl rfl ?_
  refine x3x rfl w1w rfl rfl ?_
  refine x1x rfl ?_
  refine z7z rfl rfl w1w rfl v2v rfl hp ?_
  refine z6z rfl v2v rfl rfl ?_
  refine x1x rfl ?_
  refine y7y rfl rfl rfl (b4h c l g hll) ?_
  refine x1x rfl ?_
  refine w6w rfl rfl ?_
  refine w6w rfl rfl ?_
  refine w6w rfl rfl ?_
  refine u9u (id := 3) v2v a6u rfl ?_
  refine z2z rfl rfl v2v rfl rfl rfl rfl ?_
  refine x2x rfl ?_
  refine x2x rfl ?_
  refine x4x x7x (by rfl) ?_
  refine x0x rfl z5z rfl rfl w1w rfl rfl ?_
  refine x3x rfl w1w rfl rfl ?_
  refine x1x rfl ?_
  refine y1y rfl v2v rfl rfl rfl ?_
  refine w7w (j := i) rfl rfl w1w rfl v2v rfl rfl hlt2 ?_
  refine s8s (el' := a9e g l) rfl rfl v2v rfl rfl rfl (b5k hp) rfl (a9k rfl) rfl rfl ?_
  refine x4x x7x (by rfl) ?_
  refine r4r (id := 4) u6u rfl z1z rfl ?_
  refine x1x rfl ?_
  refine s1s (zs := (a1q n g i).map w0w) rfl rfl u6u rfl z1z rfl rfl rfl (by exact r9r (fun _ => rfl) _) rfl (by (simp only [List.length_map, List.length_append, List.length_cons, List.length_nil, List.length_take, T76]; omega)) ?_
  refine x1x rfl ?_
  refine a9n x7x (zs := (a1q n g i ++ b2w g l).map w0w) rfl rfl u6u rfl z1z rfl rfl rfl (by exact r9r (fun _ => rfl) _) (a4n _ _ _) (by (simp only [List.length_map, List.length_append, List.length_cons, List.length_nil, List.length_take, T76]; omega)) (Le.ow_map _ (fun _ => rfl) (fun _ => rfl)) ?_
  refine x2x rfl ?_
  refine y4y x7x (by rfl) ?_
  refine r4r (id := 7) u7u rfl u0u rfl ?_
  refine x1x rfl ?_
  refine s1s (zs := (a6q n g i).map r0r) rfl rfl u7u rfl u0u rfl rfl rfl (by exact r9r (fun _ => rfl) _) rfl (by (simp only [List.length_map, List.length_append, List.length_cons, List.length_nil, List.length_take, T104]; omega)) ?_
  refine x1x rfl ?_
  refine a9n x7x (zs := (a6q n g i ++ b4r g l).map r0r) rfl rfl u7u rfl u0u rfl rfl rfl (by exact r9r (fun _ => rfl) _) (a4n _ _ _) (by (simp only [List.length_map, List.length_append, List.length_cons, List.length_nil, List.length_take, T104]; omega)) (Le.ow_map _ (fun _ => rfl) (fun _ => rfl)) ?_
  refine x2x rfl ?_
  refine hK14 _ _ ?_
  clear hK14 K14
  refine c9e 9 rfl (.le rfl (Le.low_map (c := c) (l := a1q n g i ++ b2w g l) (f := w0w) fun _ => rfl) .nil) ?_
  refine c9e 10 rfl (.le rfl (Le.low_map (c := c) (l := a6q n g i ++ b4r g l) (f := r0r) fun _ => rfl) .nil) ?_
  refine y4y x7x (by rfl) ?_
  refine x1x rfl ?_
  refine y3y rfl rfl rfl ?_
  refine x2x rfl ?_
  exact ⟨i + 1, ⟨by omega, by omega⟩, [0, 0, 0, _, _, _, _, _, _, _], (Cov.cons' (t := 9) rfl (by rw [a8q hp]; rfl) (Cov.cons' (t := 10) rfl (by rw [a8r hp]; rfl) (Cov.cons' (t := 11) rfl (by rw [v6v (by omega) (by omega)]; rfl) Cov.nil))), (Cov.cons (t := 2) rfl (Cov.cons (t := 3) rfl (Cov.cons (t := 6) rfl (Cov.cons (t := 8) rfl Cov.nil)))), (HE.row rfl (by rw [b7g hp]) (HE.kill rfl (HE.kill rfl (HE.kill rfl (HE.kill rfl (HE.kill rfl (HE.kill rfl (HE.kill rfl HE.nil)))))))), (HE.same (id := 0) rfl (HE.same (id := 1) rfl (HE.same (id := 2) rfl (HE.same (id := 10) rfl (HE.same (id := 11) rfl (HE.same (id := 12) rfl (HE.same (id := 14) rfl (HE.same (id := 15) rfl (HE.same (id := 16) rfl (HE.same (id := 17) rfl (HE.same (id := 18) rfl HE.nil))))))))))), rfl⟩
 try simp at hc13
 obtain rfl : i = n.lanes.length := by omega
 have hkt := b2x fS g n.lanes.length
 have hot := b2y fS g n.lanes.length
 have hkq : ∀ e ∈ q8q (a1q n g n.lanes.length), okE e = true := fun e he => c3v fS ((b0i _ _).1 he)
 have hqs := b6z (a1q n g n.lanes.length)
 refine v0v ?_
 refine hK11 _ _ ?_
 clear hK12 K12 hK11 K11
 refine x4x x7x (by rfl) ?_
 refine x1x rfl ?_
 refine x0x rfl z5z rfl rfl y9y rfl rfl ?_
 refine u5u rfl rfl y9y rfl rfl rfl rfl rfl (by simp only [List.set_cons_zero, List.set_cons_succ]; rfl) ?_
 refine x4x x7x (by rfl) ?_
 refine x0x rfl z5z rfl rfl p3p rfl rfl ?_
 refine x3x rfl p3p rfl rfl ?_
 refine x0x rfl z5z rfl rfl y9y rfl rfl ?_
 refine x3x rfl y9y rfl rfl ?_
 refine x1x rfl ?_
 refine w7w (j := k) rfl (by rw [← hk]; rfl) p3p rfl y9y rfl rfl (a0e hkv) ?_
 refine b3t (el' := g) rfl rfl y9y rfl rfl rfl hkv rfl (by omega) (.val rfl rfl .nil) rfl rfl ?_
 refine x4x x7x (by rfl) ?_
 refine r4r (id := 10) u6u rfl z1z rfl ?_
 refine x0x rfl z5z rfl rfl u6u rfl rfl ?_
 refine u5u rfl rfl u6u rfl rfl rfl rfl rfl (by simp only [List.set_cons_zero, List.set_cons_succ]; rfl) ?_
 refine x4x x7x (by rfl) ?_
 refine x1x rfl ?_
 refine y7y rfl rfl rfl (a3b c _ (by omega)) ?_
 refine x2x rfl ?_
 refine x5x fun K15 hK15 => ?_
 refine x4x x7x (by rfl) ?_
 refine x2x rfl ?_
 refine y6y ?_
 refine u4u (ι := Nat) (fun j γ2 => [(15, .pv (.int .i64 (j : Int)))]) (fun j γ2 => [(10, ((γ2 10), .row 76 7 ((((q8q (a1q n g n.lanes.length)).take j).filter (a9t (n.known.set k g))).map w0w))), (2, ((0 + 1), .box 28 [pI n.id, .pv (.bool n.up), pI n.inc, pI g, .ref 13 (0 + 1), .ref 10 (γ2 10), a0z true n.outs, pI n.led, pI n.version, .ref 14 (0 + 1), .ref 15 (0 + 1), pI n.round, pI n.low])), (11, ((γ2 11), .dead)), (12, ((γ2 12), .dead))]) (fun j => j ≤ (q8q (a1q n g n.lanes.length)).length) (fun j => (q8q (a1q n g n.lanes.length)).length - j) (Cov.cons (t := 3) rfl (Cov.cons (t := 6) rfl (Cov.cons (t := 8) rfl (Cov.cons (t := 9) rfl (Cov.cons (t := 10) rfl Cov.nil))))) (HE.same (id := 0) rfl (HE.same (id := 1) rfl (HE.same (id := 3) rfl (HE.same (id := 4) rfl (HE.same (id := 5) rfl (HE.same (id := 6) rfl (HE.same (id := 7) rfl (HE.same (id := 8) rfl (HE.same (id := 9) rfl (HE.same (id := 13) rfl (HE.same (id := 14) rfl (HE.same (id := 15) rfl (HE.same (id := 16) rfl (HE.same (id := 17) rfl (HE.same (id := 18) rfl HE.nil))))))))))))))) 0 (by omega) [0, 0, 0, 0, 0, 0, 0, 0, 0, 0, _, _, _] (Cov.cons (t := 15) rfl Cov.nil) (HE.row rfl (by rw [List.take_zero]; rfl) (HE.box rfl rfl (HE.kill rfl (HE.kill rfl HE.nil)))) rfl fun j γ2 hi => ?_
 try dsimp only [List.cons_append, List.nil_append]
 refine x5x fun K16 hK16 => ?_
 refine x4x x7x (by rfl) ?_
 refine x1x rfl ?_
 refine x1x rfl ?_
 refine u2u rfl u6u rfl ?_
 refine y3y rfl rfl rfl ?_
 refine x8x rfl (fun hc17 => ?_) (fun hc17 => ?_)
 rotate_left
 ·try simp at hc17
  obtain rfl : j = (q8q (a1q n g n.lanes.length)).length := by omega
  refine v0v ?_
  refine hK15 _ _ ?_
  clear hK16 K16 hK15 K15
  refine x4x x7x (by rfl) ?_
  refine x1x rfl ?_
  refine y7y rfl rfl rfl (a7f c _ (by omega)) ?_
  refine x0x rfl z5z rfl rfl u7u rfl rfl ?_
  refine u5u rfl rfl u7u rfl rfl rfl rfl rfl (by simp only [List.set_cons_zero, List.set_cons_succ]; rfl) ?_
  refine x5x fun K20 hK20 => ?_
  refine a9o 10 (xs' := (r7r n g).kept.map w0w) rfl (by simp only [r7r, hKk, c1f, List.take_length]) ?_
  refine a9o 13 (xs' := (r7r n g).lanes.map (a0m true)) rfl (by rw [b7f]; rfl) ?_
  refine a9o 15 (xs' := (r7r n g).known.map a2w) rfl (by simp only [r7r, hKk]) ?_
  refine b6n (b := c1h true (r7r n g).lanes) 2 4 rfl rfl rfl (.ref rfl (Le.ow_map _ (fun _ => rfl) (fun _ => rfl)) .nil) rfl rfl rfl rfl ?_
  refine b6n (b := a0i true (r7r n g).kept) 2 5 rfl rfl rfl (.ref rfl (Le.ow_map _ (fun _ => rfl) (fun _ => rfl)) .nil) rfl rfl rfl rfl ?_
  refine b6n (b := c1i true n.views) 2 9 rfl rfl rfl (.ref rfl (Le.ow_map _ (fun _ => rfl) (fun _ => rfl)) .nil) rfl rfl rfl rfl ?_
  refine b6n (b := a4i true (r7r n g).known) 2 10 rfl rfl rfl (.ref rfl (Le.ow_map _ (fun _ => rfl) (fun _ => rfl)) .nil) rfl rfl rfl rfl ?_
  refine x4x x7x (by rfl) ?_
  refine y1y rfl z5z rfl rfl rfl ?_
  refine y7y rfl rfl rfl (a8t true (r7r n g)) ?_
  refine w2w rfl ?_
  refine x8x rfl (fun hc21 => ?_) (fun hc21 => ?_)
  ·try simp at hc21
   have fX2 : ¬ a0r (r7r n g) := a4z (by simpa using hc21)
   refine x4x x7x (by rfl) ?_
   refine y1y rfl z5z rfl rfl rfl ?_
   refine v4v [16, 17, 18] [_, _, _] (a4w c n fb) rfl rfl rfl (by decide) rfl rfl (by repeat (first | exact InH.nil | refine InH.cons rfl ?_)) (by (simp only [pI, List.map_cons, List.map_nil, z8z, z9z, gl, nx, p4p, Nat.beq, Nat.add_eq, List.getD_cons_zero, List.getD_cons_succ, List.getD_nil, Bool.or_false, Bool.false_or, Bool.true_or, Bool.or_true, Nat.add_zero, Nat.zero_add]; rfl)) (by (simp only [pI, List.map_cons, List.map_nil, z8z, z9z, gl, nx, p4p, Nat.beq, Nat.add_eq, List.getD_cons_zero, List.getD_cons_succ, List.getD_nil, Bool.or_false, Bool.false_or, Bool.true_or, Bool.or_true, Nat.add_zero, Nat.zero_add]; rfl)) ?_
   refine z2z rfl rfl z5z rfl rfl rfl rfl ?_
   refine x2x rfl ?_
   refine y0y ⟨.inr rfl, ?_⟩
   clear hK20 K20
   (rw [c1g fK fM, c3x fX2]; exact ⟨_, _, rfl, b2z (n := n) rfl rfl rfl (.cl rfl .nil)⟩)
  try simp at hc21
  have fK2 : a0r (r7r n g) := b0v.1 (by simpa using hc21)
  have fb2 := d7q fK2.1
  refine x9x ?_
  refine hK20 _ _ ?_
  clear hK20 K20
  refine x4x x7x (by rfl) ?_
  refine y1y rfl z5z rfl rfl rfl ?_
  refine v4v [16, 17, 18] [_, _, _] (a4w true (r7r n g) fb2) rfl rfl rfl (by decide) rfl rfl (by repeat (first | exact InH.nil | refine InH.cons rfl ?_)) (by (simp only [pI, List.map_cons, List.map_nil, z8z, z9z, gl, nx, p4p, Nat.beq, Nat.add_eq, List.getD_cons_zero, List.getD_cons_succ, List.getD_nil, Bool.or_false, Bool.false_or, Bool.true_or, Bool.or_true, Nat.add_zero, Nat.zero_add]; rfl)) (by (simp only [pI, List.map_cons, List.map_nil, z8z, z9z, gl, nx, p4p, Nat.beq, Nat.add_eq, List.getD_cons_zero, List.getD_cons_succ, List.getD_nil, Bool.or_false, Bool.false_or, Bool.true_or, Bool.or_true, Nat.add_zero, Nat.zero_add]; rfl)) ?_
  refine z2z rfl rfl z5z rfl rfl rfl rfl ?_
  refine x2x rfl ?_
  refine y0y ⟨.inr rfl, ?_⟩
  (rw [c1g fK fM, c3w fK2]; exact ⟨_, _, rfl, b2z (n := r7r n g) rfl rfl rfl (.cl rfl .nil)⟩)
 try simp at hc17
 obtain ⟨e, he⟩ : ∃ e, (q8q (a1q n g n.lanes.length))[j]? = some e := ⟨_, List.getElem?_eq_getElem (by omega)⟩
 obtain ⟨k2, v, hk2, hv, hw⟩ := c6s (kn := n.known.set k g) (hkq e (List.mem_of_getElem? he)) (by rw [List.length_set]; exact hkl)
 have hfl : (((q8q (a1q n g n.lanes.length)).take j).filter (a9t (n.known.set k g))).length ≤ 1000000 := Nat.le_trans (List.length_filter_le _ _) (by rw [List.length_take]; omega)
 refine x9x ?_
 refine hK16 _ _ ?_
 clear hK16 K16
 refine x5x fun K18 hK18 => ?_
 refine y6y ?_
 refine p6p x7x r2r (by rfl) ?_
 refine x1x rfl ?_
 refine x1x rfl ?_
 refine z7z rfl rfl u6u rfl z1z rfl he ?_
 refine x0x rfl z1z rfl rfl y9y rfl rfl ?_
 refine z3z rfl y9y rfl ?_
 refine x0x rfl z5z rfl rfl p3p rfl rfl ?_
 refine x3x rfl p3p rfl rfl ?_
 refine x1x rfl ?_
 refine x1x rfl ?_
 refine z7z rfl rfl u6u rfl z1z rfl he ?_
 refine x0x rfl z1z rfl rfl y9y rfl rfl ?_
 refine z3z rfl y9y rfl ?_
 refine y7y rfl rfl rfl (b3f ..) ?_
 refine w7w (j := k2) rfl (by rw [← hk2]; rfl) p3p rfl y9y rfl rfl (a0e hv) ?_
 refine a8h rfl y9y rfl hv rfl ?_
 refine y3y rfl rfl rfl ?_
 refine ⟨by kernel_rfl, ?_⟩
 refine x8x rfl (fun hc19 => ?_) (fun hc19 => ?_)
 rotate_left
 ·try simp at hc19
  have hwf : ¬ a9t (n.known.set k g) e = true := by rw [hw]; simp; omega
  refine x9x ?_
  refine hK18 _ _ ?_
  clear hK18 K18
  refine y4y x7x (by rfl) ?_
  refine x1x rfl ?_
  refine y3y rfl rfl rfl ?_
  refine x2x rfl ?_
  exact ⟨j + 1, ⟨by omega, by omega⟩, [0, 0, 0, 0, 0, 0, 0, 0, 0, 0, _, _, _], (Cov.cons' (t := 15) rfl (by rw [v6v (by omega) (by omega)]; rfl) Cov.nil), (Cov.cons (t := 3) rfl (Cov.cons (t := 6) rfl (Cov.cons (t := 8) rfl (Cov.cons (t := 9) rfl (Cov.cons (t := 10) rfl Cov.nil))))), (HE.row rfl (by rw [a1l he]; rw [if_neg hwf, List.append_nil]) (HE.box rfl rfl (HE.kill rfl (HE.kill rfl HE.nil)))), (HE.same (id := 0) rfl (HE.same (id := 1) rfl (HE.same (id := 3) rfl (HE.same (id := 4) rfl (HE.same (id := 5) rfl (HE.same (id := 6) rfl (HE.same (id := 7) rfl (HE.same (id := 8) rfl (HE.same (id := 9) rfl (HE.same (id := 13) rfl (HE.same (id := 14) rfl (HE.same (id := 15) rfl (HE.same (id := 16) rfl (HE.same (id := 17) rfl (HE.same (id := 18) rfl HE.nil))))))))))))))), rfl⟩
 try simp at hc19
 have hwt : a9t (n.known.set k g) e = true := by rw [hw]; exact decide_eq_true (by omega)
 refine s3s x7x r2r (by rfl) ?_
 refine x0x rfl z5z rfl rfl u6u rfl rfl ?_
 refine x3x rfl u6u rfl rfl ?_
 refine x1x rfl ?_
 refine x1x rfl ?_
 refine z7z rfl rfl u6u rfl z1z rfl he ?_
 refine z6z rfl z1z rfl rfl ?_
 refine r6r (id := 11) u6u rfl z1z rfl rfl rfl rfl rfl rfl ?_
 refine r8r (zs := (((q8q (a1q n g n.lanes.length)).take j).filter (a9t (n.known.set k g)) ++ [e]).map w0w) rfl rfl u6u rfl z1z rfl rfl rfl rfl (by rfl) (a0j _ _ _) (by (simp only [List.length_map, List.length_append, List.length_cons, List.length_nil, List.length_take, T76]; omega)) ?_
 refine x0x rfl z5z rfl rfl u6u rfl rfl ?_
 refine u5u rfl rfl u6u rfl rfl rfl rfl rfl (by simp only [List.set_cons_zero, List.set_cons_succ]; rfl) ?_
 refine ⟨by kernel_rfl, ?_⟩
 refine hK18 _ _ ?_
 clear hK18 K18
 refine y4y x7x (by rfl) ?_
 refine x1x rfl ?_
 refine y3y rfl rfl rfl ?_
 refine x2x rfl ?_
 exact ⟨j + 1, ⟨by omega, by omega⟩, [0, 0, 0, 0, 0, 0, 0, 0, 0, 0, _, _, _], (Cov.cons' (t := 15) rfl (by rw [v6v (by omega) (by omega)]; rfl) Cov.nil), (Cov.cons (t := 3) rfl (Cov.cons (t := 6) rfl (Cov.cons (t := 8) rfl (Cov.cons (t := 9) rfl (Cov.cons (t := 10) rfl Cov.nil))))), (HE.row rfl (by rw [a1l he]; rw [if_pos hwt]) (HE.box rfl rfl (HE.kill rfl (HE.kill rfl HE.nil)))), (HE.same (id := 0) rfl (HE.same (id := 1) rfl (HE.same (id := 3) rfl (HE.same (id := 4) rfl (HE.same (id := 5) rfl (HE.same (id := 6) rfl (HE.same (id := 7) rfl (HE.same (id := 8) rfl (HE.same (id := 9) rfl (HE.same (id := 13) rfl (HE.same (id := 14) rfl (HE.same (id := 15) rfl (HE.same (id := 16) rfl (HE.same (id := 17) rfl (HE.same (id := 18) rfl HE.nil))))))))))))))), rfl⟩
end
section
set_option maxHeartbeats 4000000 in
theorem a7y (n : Nd) (r : Int) (g : Int) : a0o Tryz.prog 8 [.agg (a1d true n), .pv (.int .i64 r), .pv (.int .i64 g)] (.pv (.bool (true))) := by
 refine z4z x7x (fn := Tryz.f8) (by kernel_rfl) (by kernel_rfl) rfl (outs := [.pv (.bool (true))]) (by rfl) (Nat.le_of_ble_eq_true rfl) 35 ?_
 refine x4x x7x (by rfl) ?_
 refine v5v (id := 0) rfl rfl rfl ?_
 refine x2x rfl ?_
 refine x4x x7x (by rfl) ?_
 refine x2x rfl ?_
 refine x4x x7x (by rfl) ?_
 refine y1y rfl a4m rfl rfl rfl ?_
 refine x1x rfl ?_
 refine y7y rfl rfl rfl (c1r true n 1048576 (by omega)) ?_
 refine x2x rfl ?_
 refine x5x fun K1 hK1 => ?_
 refine x4x x7x (by rfl) ?_
 refine x1x rfl ?_
 refine y3y rfl rfl rfl ?_
 refine x8x rfl (fun hc2 => ?_) (fun hc2 => ?_)
 ·try simp at hc2
  refine x4x x7x (by rfl) ?_
  refine x2x rfl ?_
  refine y0y ⟨.inr rfl, ?_⟩
  clear hK1 K1
  exact z0z rfl rfl rfl
 try simp at hc2
 have hs22 : cNd n ≤ 1048576 := b3w (by omega)
 have hl_n : cNd n ≤ 1048576 := by omega
 have := d4i n
 have hzA : 1 + zNd (n) ≤ 900000000 := by omega
 have hzR : 1 + zNd ((v7v n r g).1) ≤ 900000000 := by (have := d4i (v7v n r g).1; have := c3z n r g; omega)
 refine x9x ?_
 refine hK1 _ _ ?_
 clear hK1 K1
 refine x4x x7x (by rfl) ?_
 refine y1y rfl a4m rfl rfl rfl ?_
 refine v4v [5, 6, 7, 8, 9] [_, _, _, _, _] (a5g true n hl_n) rfl rfl rfl (by decide) rfl rfl (by repeat (first | exact InH.nil | refine InH.cons rfl ?_)) (by (simp only [pI, List.map_cons, List.map_nil, z8z, z9z, gl, nx, p4p, Nat.beq, Nat.add_eq, List.getD_cons_zero, List.getD_cons_succ, List.getD_nil, Bool.or_false, Bool.false_or, Bool.true_or, Bool.or_true, Nat.add_zero, Nat.zero_add]; rfl)) (by (simp only [pI, List.map_cons, List.map_nil, z8z, z9z, gl, nx, p4p, Nat.beq, Nat.add_eq, List.getD_cons_zero, List.getD_cons_succ, List.getD_nil, Bool.or_false, Bool.false_or, Bool.true_or, Bool.or_true, Nat.add_zero, Nat.zero_add]; rfl)) ?_
 refine x1x rfl ?_
 refine x1x rfl ?_
 refine a8g rfl rfl rfl (by exact b0w rfl rfl rfl rfl rfl (.cl rfl (.cl rfl (.nil)))) (b4i false n r g) (by exact .tup (a4s (d3g _) (a4s (.pv _) d6c))) ?_
 refine x1x rfl ?_
 refine w6w rfl rfl ?_
 refine w6w rfl rfl ?_
 refine u9u (id := 1) z5z a6g rfl ?_
 refine z2z rfl rfl z5z rfl rfl rfl rfl ?_
 refine x2x rfl ?_
 refine x4x x7x (by rfl) ?_
 refine y1y rfl a4m rfl rfl rfl ?_
 refine v4v [10, 11, 12, 13, 14] [_, _, _, _, _] (a5g true n hl_n) rfl rfl rfl (by decide) rfl rfl (by repeat (first | exact InH.nil | refine InH.cons rfl ?_)) (by (simp only [pI, List.map_cons, List.map_nil, z8z, z9z, gl, nx, p4p, Nat.beq, Nat.add_eq, List.getD_cons_zero, List.getD_cons_succ, List.getD_nil, Bool.or_false, Bool.false_or, Bool.true_or, Bool.or_true, Nat.add_zero, Nat.zero_add]; rfl)) (by (simp only [pI, List.map_cons, List.map_nil, z8z, z9z, gl, nx, p4p, Nat.beq, Nat.add_eq, List.getD_cons_zero, List.getD_cons_succ, List.getD_nil, Bool.or_false, Bool.false_or, Bool.true_or, Bool.or_true, Nat.add_zero, Nat.zero_add]; rfl)) ?_
 refine u9u (id := 2) z5z a6g rfl ?_
 refine z2z rfl rfl z5z rfl rfl rfl rfl ?_
 refine x4x x7x (by rfl) ?_
 refine y1y rfl z5z rfl rfl rfl ?_
 refine x1x rfl ?_
 refine x1x rfl ?_
 refine c0l [15, 16, 17, 18, 19] [_, _, _, _, _] (a7x false n r g) rfl rfl rfl (LendM.base (b0w rfl rfl rfl rfl rfl (.cl rfl (.cl rfl (.nil))))) rfl (by decide) rfl rfl (by repeat (first | exact InH.nil | refine InH.cons rfl ?_)) (by (simp only [pI, List.map_cons, List.map_nil, z8z, z9z, gl, nx, p4p, Nat.beq, Nat.add_eq, List.getD_cons_zero, List.getD_cons_succ, List.getD_nil, Bool.or_false, Bool.false_or, Bool.true_or, Bool.or_true, Nat.add_zero, Nat.zero_add]; rfl)) (by (simp only [pI, List.map_cons, List.map_nil, z8z, z9z, gl, nx, p4p, Nat.beq, Nat.add_eq, List.getD_cons_zero, List.getD_cons_succ, List.getD_nil, Bool.or_false, Bool.false_or, Bool.true_or, Bool.or_true, Nat.add_zero, Nat.zero_add]; rfl)) rfl rfl (d0c rfl) (by repeat (first | exact StrH.nil | refine StrH.dead ?_)) (by exact d6b (.nil)) ?_
 refine x1x rfl ?_
 refine w6w rfl rfl ?_
 refine w6w rfl rfl ?_
 refine u9u (id := 3) z5z a6g rfl ?_
 refine z2z rfl rfl z5z rfl rfl rfl rfl ?_
 refine x2x rfl ?_
 refine x5x fun K3 hK3 => ?_
 refine x4x x7x (by rfl) ?_
 refine y1y rfl z5z rfl rfl rfl ?_
 refine y1y rfl z5z rfl rfl rfl ?_
 refine a8g rfl rfl rfl (by exact b0w rfl rfl rfl rfl rfl (d3f rfl rfl .nil)) (a5f false true ((v7v n r g).1) ((v7v n r g).1)) (by exact .pv _) ?_
 refine w2w rfl ?_
 refine x1x rfl ?_
 refine s9s rfl rfl (fun hg4 => ?_) (fun hg4 => ?_)
 rotate_left
 ·(simp at hg4; done)
 try simp at hg4
 refine x1x rfl ?_
 refine y5y rfl rfl ?_
 refine x1x rfl ?_
 refine y5y rfl rfl ?_
 refine b1l rfl rfl (by intro p q h h'; cases h; cases h'; rfl) (.inr rfl) (b5f Tryz.underlying4 _ _ _ _) ?_
 refine y2y rfl rfl ?_
 refine x8x rfl (fun hc5 => ?_) (fun hc5 => ?_)
 ·(simp at hc5; done)
 try simp at hc5
 refine x9x ?_
 refine hK3 _ _ ?_
 clear hK3 K3
 refine x5x fun K6 hK6 => ?_
 refine p6p x7x r2r (by rfl) ?_
 refine y1y rfl z5z rfl rfl rfl ?_
 refine y1y rfl a4m rfl rfl rfl ?_
 refine v4v [20, 21, 22, 23, 24] [_, _, _, _, _] (a5g true n hl_n) rfl rfl rfl (by decide) rfl rfl (by repeat (first | exact InH.nil | refine InH.cons rfl ?_)) (by (simp only [pI, List.map_cons, List.map_nil, z8z, z9z, gl, nx, p4p, Nat.beq, Nat.add_eq, List.getD_cons_zero, List.getD_cons_succ, List.getD_nil, Bool.or_false, Bool.false_or, Bool.true_or, Bool.or_true, Nat.add_zero, Nat.zero_add]; rfl)) (by (simp only [pI, List.map_cons, List.map_nil, z8z, z9z, gl, nx, p4p, Nat.beq, Nat.add_eq, List.getD_cons_zero, List.getD_cons_succ, List.getD_nil, Bool.or_false, Bool.false_or, Bool.true_or, Bool.or_true, Nat.add_zero, Nat.zero_add]; rfl)) ?_
 refine a8g rfl rfl rfl (by exact b0w rfl rfl rfl rfl rfl (b0w rfl rfl rfl rfl rfl (.nil))) (a5f false false n n) (by exact .pv _) ?_
 refine w2w rfl ?_
 refine ⟨by kernel_rfl, ?_⟩
 refine x8x rfl (fun hc7 => ?_) (fun hc7 => ?_)
 ·(simp at hc7; done)
 try simp at hc7
 refine x9x ?_
 refine hK6 _ _ ?_
 clear hK6 K6
 refine x4x x7x (by rfl) ?_
 refine x2x rfl ?_
 refine x4x x7x (by rfl) ?_
 refine y1y rfl z5z rfl rfl rfl ?_
 refine x1x rfl ?_
 refine v4v [10, 11, 12, 13, 14] [_, _, _, _, _] (a9v (n) (1) (by omega)) rfl rfl rfl (by decide) rfl rfl (by repeat (first | exact InH.nil | refine InH.cons rfl ?_)) (by (simp only [pI, List.map_cons, List.map_nil, z8z, z9z, gl, nx, p4p, Nat.beq, Nat.add_eq, List.getD_cons_zero, List.getD_cons_succ, List.getD_nil, Bool.or_false, Bool.false_or, Bool.true_or, Bool.or_true, Nat.add_zero, Nat.zero_add]; rfl)) (by (simp only [pI, List.map_cons, List.map_nil, z8z, z9z, gl, nx, p4p, Nat.beq, Nat.add_eq, List.getD_cons_zero, List.getD_cons_succ, List.getD_nil, Bool.or_false, Bool.false_or, Bool.true_or, Bool.or_true, Nat.add_zero, Nat.zero_add]; rfl)) ?_
 refine x2x rfl ?_
 refine x5x fun K8 hK8 => ?_
 refine x4x x7x (by rfl) ?_
 refine x1x rfl ?_
 refine y3y rfl rfl rfl ?_
 refine x1x rfl ?_
 refine s9s rfl rfl (fun hg9 => ?_) (fun hg9 => ?_)
 rotate_left
 ·(simp at hg9; omega)
 try simp at hg9
 refine y1y rfl z5z rfl rfl rfl ?_
 refine y5y rfl rfl ?_
 refine y1y rfl z5z rfl rfl rfl ?_
 refine y5y rfl rfl ?_
 refine a8g rfl rfl rfl (by exact b0w rfl rfl rfl rfl rfl (d3f rfl rfl .nil)) (a5f false true ((v7v n r g).1) ((v7v n r g).1)) (by exact .pv _) ?_
 refine y5y rfl rfl ?_
 refine w2w rfl ?_
 refine y2y rfl rfl ?_
 refine x1x rfl ?_
 refine s9s rfl rfl (fun hg10 => ?_) (fun hg10 => ?_)
 rotate_left
 ·(simp at hg10; done)
 try simp at hg10
 refine x1x rfl ?_
 refine y5y rfl rfl ?_
 refine x1x rfl ?_
 refine y5y rfl rfl ?_
 refine b1l rfl rfl (by intro p q h h'; cases h; cases h'; rfl) (.inr rfl) (b5f Tryz.underlying4 _ _ _ _) ?_
 refine y2y rfl rfl ?_
 refine x8x rfl (fun hc11 => ?_) (fun hc11 => ?_)
 ·(simp at hc11; done)
 try simp at hc11
 refine x9x ?_
 refine hK8 _ _ ?_
 clear hK8 K8
 refine x4x x7x (by rfl) ?_
 refine x2x rfl ?_
 refine x4x x7x (by rfl) ?_
 refine y1y rfl z5z rfl rfl rfl ?_
 refine x1x rfl ?_
 refine v4v [15, 16, 17, 18, 19] [_, _, _, _, _] (a9v ((v7v n r g).1) (1) (by omega)) rfl rfl rfl (by decide) rfl rfl (by repeat (first | exact InH.nil | refine InH.cons rfl ?_)) (by (simp only [pI, List.map_cons, List.map_nil, z8z, z9z, gl, nx, p4p, Nat.beq, Nat.add_eq, List.getD_cons_zero, List.getD_cons_succ, List.getD_nil, Bool.or_false, Bool.false_or, Bool.true_or, Bool.or_true, Nat.add_zero, Nat.zero_add]; rfl)) (by (simp only [pI, List.map_cons, List.map_nil, z8z, z9z, gl, nx, p4p, Nat.beq, Nat.add_eq, List.getD_cons_zero, List.getD_cons_succ, List.getD_nil, Bool.or_false, Bool.false_or, Bool.true_or, Bool.or_true, Nat.add_zero, Nat.zero_add]; rfl)) ?_
 refine x2x rfl ?_
 refine x4x x7x (by rfl) ?_
 refine x2x rfl ?_
 refine x4x x7x (by rfl) ?_
 refine y1y rfl z5z rfl rfl rfl ?_
 refine x1x rfl ?_
 refine a8g rfl rfl rfl (by exact b0w (n := (kNd (1) ((v7v n r g).1))) rfl rfl rfl rfl rfl (.cl rfl .nil)) (a9x false ((v7v n r g).1) (1) (by omega)) (by exact .pv _) ?_
 refine x2x rfl ?_
 refine x5x fun K12 hK12 => ?_
 refine x4x x7x (by rfl) ?_
 refine x1x rfl ?_
 refine y3y rfl rfl rfl ?_
 refine x8x rfl (fun hc13 => ?_) (fun hc13 => ?_)
 ·(simp at hc13; omega)
 try simp at hc13
 refine x9x ?_
 refine hK12 _ _ ?_
 clear hK12 K12
 refine x5x fun K14 hK14 => ?_
 refine x4x x7x (by rfl) ?_
 refine x1x rfl ?_
 refine x1x rfl ?_
 refine y3y rfl rfl rfl ?_
 refine x8x rfl (fun hc15 => ?_) (fun hc15 => ?_)
 ·(simp at hc15; done)
 try simp at hc15
 refine x9x ?_
 refine hK14 _ _ ?_
 clear hK14 K14
 refine x4x x7x (by rfl) ?_
 refine y1y rfl a4m rfl rfl rfl ?_
 refine v4v [25, 26, 27, 28, 29] [_, _, _, _, _] (a5g true n hl_n) rfl rfl rfl (by decide) rfl rfl (by repeat (first | exact InH.nil | refine InH.cons rfl ?_)) (by (simp only [pI, List.map_cons, List.map_nil, z8z, z9z, gl, nx, p4p, Nat.beq, Nat.add_eq, List.getD_cons_zero, List.getD_cons_succ, List.getD_nil, Bool.or_false, Bool.false_or, Bool.true_or, Bool.or_true, Nat.add_zero, Nat.zero_add]; rfl)) (by (simp only [pI, List.map_cons, List.map_nil, z8z, z9z, gl, nx, p4p, Nat.beq, Nat.add_eq, List.getD_cons_zero, List.getD_cons_succ, List.getD_nil, Bool.or_false, Bool.false_or, Bool.true_or, Bool.or_true, Nat.add_zero, Nat.zero_add]; rfl)) ?_
 refine x1x rfl ?_
 refine x1x rfl ?_
 refine c0l [30, 31, 32, 33, 34] [_, _, _, _, _] (a7x false n r g) rfl rfl rfl (LendM.base (b0w rfl rfl rfl rfl rfl (.cl rfl (.cl rfl (.nil))))) rfl (by decide) rfl rfl (by repeat (first | exact InH.nil | refine InH.cons rfl ?_)) (by (simp only [pI, List.map_cons, List.map_nil, z8z, z9z, gl, nx, p4p, Nat.beq, Nat.add_eq, List.getD_cons_zero, List.getD_cons_succ, List.getD_nil, Bool.or_false, Bool.false_or, Bool.true_or, Bool.or_true, Nat.add_zero, Nat.zero_add]; rfl)) (by (simp only [pI, List.map_cons, List.map_nil, z8z, z9z, gl, nx, p4p, Nat.beq, Nat.add_eq, List.getD_cons_zero, List.getD_cons_succ, List.getD_nil, Bool.or_false, Bool.false_or, Bool.true_or, Bool.or_true, Nat.add_zero, Nat.zero_add]; rfl)) rfl rfl (d0c rfl) (by repeat (first | exact StrH.nil | refine StrH.dead ?_)) (by exact d6b (.nil)) ?_
 refine x1x rfl ?_
 refine w6w rfl rfl ?_
 refine w6w rfl rfl ?_
 refine u9u (id := 4) z5z a6g rfl ?_
 refine z2z rfl rfl z5z rfl rfl rfl rfl ?_
 refine x2x rfl ?_
 refine x5x fun K16 hK16 => ?_
 refine x4x x7x (by rfl) ?_
 refine y1y rfl z5z rfl rfl rfl ?_
 refine y1y rfl z5z rfl rfl rfl ?_
 refine a8g rfl rfl rfl (by exact b0w rfl rfl rfl rfl rfl (d3f rfl rfl .nil)) (a5f false true ((v7v n r g).1) ((v7v n r g).1)) (by exact .pv _) ?_
 refine w2w rfl ?_
 refine x1x rfl ?_
 refine s9s rfl rfl (fun hg17 => ?_) (fun hg17 => ?_)
 rotate_left
 ·(simp at hg17; done)
 try simp at hg17
 refine x1x rfl ?_
 refine y5y rfl rfl ?_
 refine x1x rfl ?_
 refine y5y rfl rfl ?_
 refine b1l rfl rfl (by intro p q h h'; cases h; cases h'; rfl) (.inr rfl) (b5f Tryz.underlying4 _ _ _ _) ?_
 refine y2y rfl rfl ?_
 refine x8x rfl (fun hc18 => ?_) (fun hc18 => ?_)
 ·(simp at hc18; done)
 try simp at hc18
 refine x9x ?_
 refine hK16 _ _ ?_
 clear hK16 K16
 refine x4x x7x (by rfl) ?_
 refine x2x rfl ?_
 refine x4x x7x (by rfl) ?_
 refine y1y rfl z5z rfl rfl rfl ?_
 refine x1x rfl ?_
 refine a8g rfl rfl rfl (by exact b0w (n := (kNd (1) ((v7v n r g).1))) rfl rfl rfl rfl rfl (.cl rfl .nil)) (a9x false ((v7v n r g).1) (1) (by omega)) (by exact .pv _) ?_
 refine x2x rfl ?_
 refine x5x fun K19 hK19 => ?_
 refine x4x x7x (by rfl) ?_
 refine x1x rfl ?_
 refine y3y rfl rfl rfl ?_
 refine x8x rfl (fun hc20 => ?_) (fun hc20 => ?_)
 ·(simp at hc20; omega)
 try simp at hc20
 refine x9x ?_
 refine hK19 _ _ ?_
 clear hK19 K19
 refine x5x fun K21 hK21 => ?_
 refine x4x x7x (by rfl) ?_
 refine x1x rfl ?_
 refine x1x rfl ?_
 refine y3y rfl rfl rfl ?_
 refine x8x rfl (fun hc22 => ?_) (fun hc22 => ?_)
 ·(simp at hc22; done)
 try simp at hc22
 refine x9x ?_
 refine hK21 _ _ ?_
 clear hK21 K21
 refine x4x x7x (by rfl) ?_
 refine x2x rfl ?_
 refine y0y ⟨.inr rfl, ?_⟩
 exact z0z rfl rfl rfl
end
section
def X0 (w : World) : Cx := ⟨fun b => b < w.heap.size, fun b => b < w.heap.size, fun _ _ => none, fun _ _ => none⟩
theorem d3k (w : World) : SRh (X0 w) ⟨w, fun _ => False, fun b => b < w.heap.size, fun b => b < w.heap.size⟩ (fun _ => none) w := by
 refine ⟨fun _ => [], ?_, ?_, ?_, ?_, ?_, ?_, ?_, ?_, ?_, rfl, rfl, rfl, Nat.le_refl _, fun _ _ _ => rfl⟩
 ·intro id g e h; cases h
 ·intro id ge b h; cases h
 ·intro id id' ge ge' b h; cases h
 ·intro b hb; exact ⟨hb, fun id ge h => by cases h⟩
 ·intro b hb; exact hb
 ·intro b hb; exact .inl hb
 ·intro b hb; exact .inl hb
 ·intro id ge b h; cases h
 ·intro id g h; exact ⟨rfl, rfl⟩
theorem c5m {P : Program} {f : FuncId} {avs : List AV} {u : Value} (hC : a0o P f avs (.pv u)) (w : World) (vs : List Value) (hl : vs.length = avs.length) (hr : ∀ (i : Nat) (a : AV) (v : Value), avs[i]? = some a → vs[i]? = some v → VR (X0 w) w a v) :
  Calls P f vs.toArray w fun e w' => e = .returned u ∧ Below w.heap.size w w' :=
 (hC.2 (X0 w) _ (fun _ => none) w vs (d3k w) hl hr (fun id ge h => by cases h)).mono fun e w' ⟨v, he, X', hX, hS, hk, hv⟩ => by
  rw [hv.pv_inv] at he
  obtain ⟨F, hS⟩ := hS
  exact ⟨he, hS.os, hS.tape, hS.output, hS.size, fun k hk => hS.keep k hk (fun h => h)⟩
def e1a (k : IntKind) (w : World) (a : Option Addr) (len cap : Nat) (zs : List Int) : Prop :=
 (a = none ∧ len = 0 ∧ cap = 0 ∧ zs = []) ∨
 ∃ x, a = some x ∧ len ≤ cap ∧ cap ≤ maxLen ∧ zs.length = cap ∧ (∀ i, i < zs.length → w.cell? (x.add i) = some (.int k (zs.getD i 0))) ∧ ∀ n ∈ zs, (Lit.int k n).wf = true
end
section
variable {H : Type} (enc : TypeId × Value → H) (w : World)
theorem c6w : Rd enc Tryz.prog w 210 3 (fun x : St => a0b x) := by
 refine ⟨by rw [(x7x _ _ b2h).cells]; rfl, fun fuel cs x hx => ?_⟩
 obtain ⟨hl, hf⟩ := a5r (x7x _ _ b2h) rfl hx
 obtain ⟨a0, l0, h0⟩ := hf (j := 0) rfl (a1h (x7x _ _ y9y) rfl)
 obtain ⟨a1, l1, h1⟩ := hf (j := 1) rfl (a1h (x7x _ _ y9y) rfl)
 obtain ⟨a2, l2, h2⟩ := hf (j := 2) rfl (a1h (x7x _ _ y9y) rfl)
 exact ⟨⟨a0, a1, a2⟩, rfl, (r3r (o := 0) h0 l0 (r3r (o := 1) h1 l1 (r3r (o := 2) h2 l2 (b1q hl))))⟩
theorem b5l : Rd enc Tryz.prog w 163 7 (fun x : Ev => w0w x) := by
 refine ⟨by rw [(x7x _ _ a7n).cells]; rfl, fun fuel cs x hx => ?_⟩
 obtain ⟨hl, hf⟩ := a5r (x7x _ _ a7n) rfl hx
 obtain ⟨a0, l0, h0⟩ := hf (j := 0) rfl (a1h (x7x _ _ y9y) rfl)
 obtain ⟨a1, l1, h1⟩ := hf (j := 1) rfl (a1h (x7x _ _ y9y) rfl)
 obtain ⟨a2, l2, h2⟩ := hf (j := 2) rfl (a1h (x7x _ _ y9y) rfl)
 obtain ⟨a3, l3, h3⟩ := hf (j := 3) rfl (a1h (x7x _ _ y9y) rfl)
 obtain ⟨a4, l4, h4⟩ := hf (j := 4) rfl (a1h (x7x _ _ y9y) rfl)
 obtain ⟨a5, l5, h5⟩ := hf (j := 5) rfl (a1h (x7x _ _ y9y) rfl)
 obtain ⟨a6, l6, h6⟩ := hf (j := 6) rfl (a1h (x7x _ _ y9y) rfl)
 exact ⟨⟨a0, a1, a2, a3, a4, a5, a6⟩, rfl, (r3r (o := 0) h0 l0 (r3r (o := 1) h1 l1 (r3r (o := 2) h2 l2 (r3r (o := 3) h3 l3 (r3r (o := 4) h4 l4 (r3r (o := 5) h5 l5 (r3r (o := 6) h6 l6 (b1q hl))))))))⟩
theorem d4o : Rd enc Tryz.prog w 220 5 (fun x : Ou => r0r x) := by
 refine ⟨by rw [(x7x _ _ b2i).cells]; rfl, fun fuel cs x hx => ?_⟩
 obtain ⟨hl, hf⟩ := a5r (x7x _ _ b2i) rfl hx
 obtain ⟨a0, l0, h0⟩ := hf (j := 0) rfl (a1h (x7x _ _ y9y) rfl)
 obtain ⟨a1, l1, h1⟩ := hf (j := 1) rfl (a1h (x7x _ _ y9y) rfl)
 obtain ⟨a2, l2, h2⟩ := hf (j := 2) rfl (a1h (x7x _ _ y9y) rfl)
 obtain ⟨a3, l3, h3⟩ := hf (j := 3) rfl (a1h (x7x _ _ y9y) rfl)
 obtain ⟨a4, l4, h4⟩ := hf (j := 4) rfl (a1h (x7x _ _ y9y) rfl)
 exact ⟨⟨a0, a1, a2, a3, a4⟩, rfl, (r3r (o := 0) h0 l0 (r3r (o := 1) h1 l1 (r3r (o := 2) h2 l2 (r3r (o := 3) h3 l3 (r3r (o := 4) h4 l4 (b1q hl))))))⟩
theorem d6g : Rd enc Tryz.prog w 282 12 (fun x : Pa => a2j true x) := by
 refine ⟨by rw [(x7x _ _ a8u).cells]; rfl, fun fuel cs x hx => ?_⟩
 obtain ⟨hl, hf⟩ := a5r (x7x _ _ a8u) rfl hx
 obtain ⟨a0, l0, h0⟩ := hf (j := 0) rfl (b5l enc w)
 obtain ⟨a1, l1, h1⟩ := hf (j := 1) rfl (c6w enc w)
 obtain ⟨a2, l2, h2⟩ := hf (j := 2) rfl (a5e 76 (by decide) (x7x _ _ a8f) rfl (b5l enc w))
 obtain ⟨a3, l3, h3⟩ := hf (j := 3) rfl (a5e 104 (by decide) (x7x _ _ b2g) rfl (d4o enc w))
 exact ⟨⟨a0, a1, a2, a3⟩, rfl, (r3r (o := 0) h0 l0 (r3r (o := 7) h1 l1 (r3r (o := 10) h2 l2 (r3r (o := 11) h3 l3 (b1q hl)))))⟩
theorem d6h : Rd enc Tryz.prog w 213 5 (fun x : La => a0m true x) := by
 refine ⟨by rw [(x7x _ _ b0r).cells]; rfl, fun fuel cs x hx => ?_⟩
 obtain ⟨hl, hf⟩ := a5r (x7x _ _ b0r) rfl hx
 obtain ⟨a0, l0, h0⟩ := hf (j := 0) rfl (a1h (x7x _ _ y9y) rfl)
 obtain ⟨a1, l1, h1⟩ := hf (j := 1) rfl (c6w enc w)
 obtain ⟨a2, l2, h2⟩ := hf (j := 2) rfl (a5e 78 (by decide) (x7x _ _ a9j) rfl (d6g enc w))
 exact ⟨⟨a0, a1, a2⟩, rfl, (r3r (o := 0) h0 l0 (r3r (o := 1) h1 l1 (r3r (o := 4) h2 l2 (b1q hl))))⟩
theorem d6i : Rd enc Tryz.prog w 216 3 (fun x : Vi => a2n true x) := by
 refine ⟨by rw [(x7x _ _ b0s).cells]; rfl, fun fuel cs x hx => ?_⟩
 obtain ⟨hl, hf⟩ := a5r (x7x _ _ b0s) rfl hx
 obtain ⟨a0, l0, h0⟩ := hf (j := 0) rfl (a1h (x7x _ _ y9y) rfl)
 obtain ⟨a1, l1, h1⟩ := hf (j := 1) rfl (a1h (x7x _ _ y9y) rfl)
 obtain ⟨a2, l2, h2⟩ := hf (j := 2) rfl (a5e 76 (by decide) (x7x _ _ a8f) rfl (b5l enc w))
 exact ⟨⟨a0, a1, a2⟩, rfl, (r3r (o := 0) h0 l0 (r3r (o := 1) h1 l1 (r3r (o := 2) h2 l2 (b1q hl))))⟩
theorem d6j : Rd enc Tryz.prog w 42 13 (fun x : Nd => a1d true x) := by
 refine ⟨by rw [(x7x _ _ a4m).cells]; rfl, fun fuel cs x hx => ?_⟩
 obtain ⟨hl, hf⟩ := a5r (x7x _ _ a4m) rfl hx
 obtain ⟨a0, l0, h0⟩ := hf (j := 0) rfl (a1h (x7x _ _ y9y) rfl)
 obtain ⟨a1, l1, h1⟩ := hf (j := 1) rfl (d5m Tryz.underlying4 (by kernel_rfl))
 obtain ⟨a2, l2, h2⟩ := hf (j := 2) rfl (a1h (x7x _ _ y9y) rfl)
 obtain ⟨a3, l3, h3⟩ := hf (j := 3) rfl (a1h (x7x _ _ y9y) rfl)
 obtain ⟨a4, l4, h4⟩ := hf (j := 4) rfl (a5e 65 (by decide) (x7x _ _ b5y) rfl (d6h enc w))
 obtain ⟨a5, l5, h5⟩ := hf (j := 5) rfl (a5e 76 (by decide) (x7x _ _ a8f) rfl (b5l enc w))
 obtain ⟨a6, l6, h6⟩ := hf (j := 6) rfl (a5e 104 (by decide) (x7x _ _ b2g) rfl (d4o enc w))
 obtain ⟨a7, l7, h7⟩ := hf (j := 7) rfl (a1h (x7x _ _ y9y) rfl)
 obtain ⟨a8, l8, h8⟩ := hf (j := 8) rfl (a1h (x7x _ _ y9y) rfl)
 obtain ⟨a9, l9, h9⟩ := hf (j := 9) rfl (a5e 141 (by decide) (x7x _ _ b5z) rfl (d6i enc w))
 obtain ⟨a10, l10, h10⟩ := hf (j := 10) rfl (a5e 3 (by decide) (x7x _ _ p3p) rfl (a1h (x7x _ _ y9y) rfl))
 obtain ⟨a11, l11, h11⟩ := hf (j := 11) rfl (a1h (x7x _ _ y9y) rfl)
 obtain ⟨a12, l12, h12⟩ := hf (j := 12) rfl (a1h (x7x _ _ y9y) rfl)
 exact ⟨⟨a0, a1, a2, a3, a4, a5, a6, a7, a8, a9, a10, a11, a12⟩, rfl, (r3r (o := 0) h0 l0 (r3r (o := 1) h1 l1 (r3r (o := 2) h2 l2 (r3r (o := 3) h3 l3 (r3r (o := 4) h4 l4 (r3r (o := 5) h5 l5 (r3r (o := 6) h6 l6 (r3r (o := 7) h7 l7 (r3r (o := 8) h8 l8 (r3r (o := 9) h9 l9 (r3r (o := 10) h10 l10 (r3r (o := 11) h11 l11 (r3r (o := 12) h12 l12 (b1q hl))))))))))))))⟩
variable {enc} {w}
theorem d7x {α : Type} {e : α → List AV} {t sz : Nat} {P : Program} (hr : Rd enc P w t sz e) {cs : Array Value} {d : DataW H} {p : List MemPlace} (h : DataW.Trod enc P w 0 (fun _ => true) true t (.agg cs) d p) : ∃ a, VR (X0 w) w (.agg (e a)) (.agg cs) := by
 obtain ⟨fuel, hf⟩ := h
 obtain ⟨a, _, h2⟩ := hr.2 _ _ _ hf
 refine ⟨a, .cl ?_⟩
 have := CR.agg (ok1 := ltw w) (ok2 := ltw w) (w := w) (cs := e a) cs.toList h2.len h2.one h2.rel
 have e : cs.toList.toArray = cs := by simp
 rw [e] at this
 exact this
end
end Go.Proofs.YtpadkogpeobboaaGreat.Am
