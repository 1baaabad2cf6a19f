/- Part 6 of the texts that the proof of LawFnExactNodeView leans on, merged by program. -/
import Derived.Test.YtpadkogpeobboaaGreatKk5
set_option linter.unusedVariables false
set_option linter.unusedSimpArgs false
namespace Go.Proofs.YtpadkogpeobboaaGreat.Am
open Go Go.RowKit
section
theorem b9n (c c' : Bool) (l l' : List Ev) : a0z Tryz.prog 202 [r7r c l, r7r c' l'] (.pv (.bool (decide (l = l')))) := by
 refine z4z x9x (fn := Tryz.f202) (by kernel_rfl) (by kernel_rfl) rfl (outs := [.pv (.bool (decide (l = l')))]) (by rfl) (v7v rfl) 0 ?_
 refine w4w 0 rfl fun hlen => ?_
 refine x6x x9x (by rfl) ?_
 refine x2x rfl ?_
 refine x7x fun K1 hK1 => ?_
 refine x6x x9x (by rfl) ?_
 refine x1x rfl ?_
 refine u3u rfl u4u rfl ?_
 refine x1x rfl ?_
 refine u3u rfl u4u rfl ?_
 refine y4y rfl rfl rfl ?_
 refine y0y rfl (fun hc2 => ?_) (fun hc2 => ?_)
 ·try simp at hc2
  refine x6x x9x (by rfl) ?_
  refine x2x rfl ?_
  refine y3y ⟨.inr rfl, ?_⟩
  clear hK1 K1
  refine z2z rfl ?_ rfl
  exact d3x (by omega)
 try simp at hc2
 refine y1y ?_
 refine hK1 _ _ ?_
 clear hK1 K1
 refine x7x fun K3 hK3 => ?_
 refine x6x x9x (by rfl) ?_
 refine x2x rfl ?_
 refine y6y ?_
 refine u5u (ι := Nat) (fun i γ1 => [(5, .pv (.int .i64 (i : Int)))]) (fun i γ1 => []) (fun i => i ≤ l.length ∧ l.length = l'.length ∧ l.take i = l'.take i) (fun i => l.length - i) (x4x 0 rfl (x4x 1 rfl Cov.nil)) HE.nil 0 ⟨by omega, by omega, rfl⟩ [] (x4x 5 rfl Cov.nil) HE.nil rfl fun i γ1 hi => ?_
 try dsimp only [List.cons_append, List.nil_append]
 obtain ⟨h1, h2, h3⟩ := hi
 refine x7x fun K4 hK4 => ?_
 refine x6x x9x (by rfl) ?_
 refine x1x rfl ?_
 refine x1x rfl ?_
 refine u3u rfl u4u rfl ?_
 refine y4y rfl rfl rfl ?_
 refine y0y rfl (fun hc5 => ?_) (fun hc5 => ?_)
 rotate_left
 ·try simp at hc5
  refine v0v ?_
  refine hK3 _ _ ?_
  clear hK4 K4 hK3 K3
  refine x6x x9x (by rfl) ?_
  refine x2x rfl ?_
  refine y3y ⟨.inr rfl, ?_⟩
  refine z2z rfl ?_ rfl
  exact eqT h3 (by omega) (by omega)
 try simp at hc5
 refine y1y ?_
 refine hK4 _ _ ?_
 clear hK4 K4
 refine x7x fun K6 hK6 => ?_
 refine y6y ?_
 refine q5q x9x r6r (by rfl) ?_
 refine x1x rfl ?_
 refine x1x rfl ?_
 obtain ⟨x, hx⟩ : ∃ x, l[i]? = some x := w5w (by omega)
 refine u0u rfl rfl u4u rfl z3z rfl hx ?_
 refine z5z rfl z3z rfl rfl ?_
 refine x1x rfl ?_
 refine x1x rfl ?_
 obtain ⟨y, hy⟩ : ∃ y, l'[i]? = some y := w5w (by omega)
 refine u0u rfl rfl u4u rfl z3z rfl hy ?_
 refine z5z rfl z3z rfl rfl ?_
 refine a8p rfl rfl (by intro p q h; cases h) (.inr rfl) (d6x _ _ _ _) ?_
 refine ⟨by kernel_rfl, ?_⟩
 refine y0y rfl (fun hc7 => ?_) (fun hc7 => ?_)
 rotate_left
 ·try simp at hc7
  have hxy : x = y := by simpa [a2n] using hc7
  refine y1y ?_
  refine hK6 _ _ ?_
  clear hK6 K6
  refine y2y x9x (by rfl) ?_
  refine x1x rfl ?_
  refine a2g (.int .i64 ((i + 1 : Nat) : Int)) rfl rfl rfl (a9k rfl (by omega) (by omega) (by have := hlen; omega)) ?_
  refine x2x rfl ?_
  exact ⟨i + 1, ⟨⟨by omega, h2, a3y h3 hx hy (by assumption)⟩, by omega⟩, [], (x4x 5 rfl Cov.nil), (x4x 0 rfl (x4x 1 rfl Cov.nil)), HE.nil, HE.nil, rfl⟩
 try simp at hc7
 have hxy : ¬ x = y := by simpa [a2n] using hc7
 refine x6x x9x (by rfl) ?_
 refine x2x rfl ?_
 refine y3y ⟨.inr rfl, ?_⟩
 clear hK6 K6 hK3 K3
 refine z2z rfl ?_ rfl
 exact d3y hx hy (by assumption)
theorem a9i (c : Bool) (a b : List Ev) (g : Int) : a0z Tryz.prog 133 [r7r c a, r7r c b, .pv (.int .i64 g)] (.pv (.int .i64 (chg g a (chg g b 41 a) b))) := by
 refine z4z x9x (fn := Tryz.f133) (by kernel_rfl) (by kernel_rfl) rfl (outs := [.pv (.int .i64 (chg g a (chg g b 41 a) b))]) (by rfl) (v7v rfl) 0 ?_
 refine x6x x9x (by rfl) ?_
 refine x2x rfl ?_
 refine x6x x9x (by rfl) ?_
 refine x2x rfl ?_
 refine x7x fun K1 hK1 => ?_
 refine x6x x9x (by rfl) ?_
 refine x2x rfl ?_
 refine y6y ?_
 refine u5u (ι := Nat) (fun k γ1 => [(0, r7r c (swK a b k)), (1, r7r c (swK b a k)), (7, .pv (.int .i64 (d2i g a b k))), (8, .pv (.int .i64 (k : Int)))]) (fun k γ1 => []) (fun k => k ≤ 2) (fun k => 2 - k) (x4x 2 rfl Cov.nil) HE.nil 0 (by omega) [] (Cov.cons' (t := 0) rfl (rfl) (Cov.cons' (t := 1) rfl (rfl) (Cov.cons' (t := 7) rfl (rfl) (x4x 8 rfl Cov.nil)))) HE.nil rfl fun k γ1 hi => ?_
 try dsimp only [List.cons_append, List.nil_append]
 refine x7x fun K2 hK2 => ?_
 refine x6x x9x (by rfl) ?_
 refine x1x rfl ?_
 refine y4y rfl rfl rfl ?_
 refine y0y rfl (fun hc3 => ?_) (fun hc3 => ?_)
 rotate_left
 ·try simp at hc3
  obtain rfl : k = 2 := by omega
  refine v0v ?_
  refine hK1 _ _ ?_
  clear hK2 K2 hK1 K1
  refine x6x x9x (by rfl) ?_
  refine x1x rfl ?_
  refine x2x rfl ?_
  refine y3y ⟨.inr rfl, ?_⟩
  exact z2z rfl rfl rfl
 try simp at hc3
 refine y1y ?_
 refine hK2 _ _ ?_
 clear hK2 K2
 refine x7x fun K4 hK4 => ?_
 refine y6y ?_
 refine x7x fun K5 hK5 => ?_
 refine x6x x9x (by rfl) ?_
 refine x2x rfl ?_
 refine y6y ?_
 refine w4w 0 rfl fun hlen0 => ?_
 refine u5u (ι := Nat) (fun i γ2 => [(7, .pv (.int .i64 (chg g (swK b a k) (d2i g a b k) ((swK a b k).take i)))), (9, .pv (.int .i64 (i : Int)))]) (fun i γ2 => []) (fun i => i ≤ (swK a b k).length) (fun i => (swK a b k).length - i) (x4x 0 rfl (x4x 1 rfl (x4x 2 rfl (x4x 8 rfl Cov.nil)))) HE.nil 0 (by omega) [] (Cov.cons' (t := 7) rfl (by rw [List.take_zero]; rfl) (x4x 9 rfl Cov.nil)) HE.nil rfl fun i γ2 hi => ?_
 try dsimp only [List.cons_append, List.nil_append]
 refine x7x fun K6 hK6 => ?_
 refine x6x x9x (by rfl) ?_
 refine x1x rfl ?_
 refine x1x rfl ?_
 refine u3u rfl u4u rfl ?_
 refine y4y rfl rfl rfl ?_
 refine y0y rfl (fun hc7 => ?_) (fun hc7 => ?_)
 rotate_left
 ·try simp at hc7
  obtain rfl : i = (swK a b k).length := by omega
  refine v0v ?_
  refine hK5 _ _ ?_
  clear hK6 K6 hK5 K5
  refine x6x x9x (by rfl) ?_
  refine x1x rfl ?_
  refine x2x rfl ?_
  refine x6x x9x (by rfl) ?_
  refine x1x rfl ?_
  refine x2x rfl ?_
  refine y2y x9x (by rfl) ?_
  refine x1x rfl ?_
  refine x2x rfl ?_
  refine hK4 _ _ ?_
  clear hK4 K4
  refine y2y x9x (by rfl) ?_
  refine x1x rfl ?_
  refine u1u (b := 1) rfl rfl (by omega) ?_
  refine x2x rfl ?_
  exact ⟨k + 1, ⟨by omega, by omega⟩, [], (Cov.cons' (t := 0) rfl (by rw [c6y (by omega)]) (Cov.cons' (t := 1) rfl (by rw [c6y (by omega)]) (Cov.cons' (t := 7) rfl (by rw [d1n (by omega), List.take_length]) (x4x 8 rfl Cov.nil)))), (x4x 2 rfl Cov.nil), HE.nil, HE.nil, rfl⟩
 try simp at hc7
 obtain ⟨x, hx⟩ : ∃ x, (swK a b k)[i]? = some x := w5w (by omega)
 refine y1y ?_
 refine hK6 _ _ ?_
 clear hK6 K6
 refine x7x fun K8 hK8 => ?_
 refine y6y ?_
 refine x6x x9x (by rfl) ?_
 refine x2x rfl ?_
 refine x7x fun K9 hK9 => ?_
 refine x6x x9x (by rfl) ?_
 refine x2x rfl ?_
 refine y6y ?_
 refine w4w 1 rfl fun hlen1 => ?_
 refine u5u (ι := Nat) (fun j γ3 => [(10, .pv (.bool (decide (x ∈ (swK b a k).take j)))), (11, .pv (.int .i64 (j : Int)))]) (fun j γ3 => []) (fun j => j ≤ (swK b a k).length) (fun j => (swK b a k).length - j) (x4x 0 rfl (x4x 1 rfl (x4x 2 rfl (x4x 7 rfl (x4x 8 rfl (x4x 9 rfl Cov.nil)))))) HE.nil 0 (by omega) [] (Cov.cons' (t := 10) rfl (by simp) (x4x 11 rfl Cov.nil)) HE.nil rfl fun j γ3 hi => ?_
 try dsimp only [List.cons_append, List.nil_append]
 refine x7x fun K10 hK10 => ?_
 refine x6x x9x (by rfl) ?_
 refine x1x rfl ?_
 refine x1x rfl ?_
 refine u3u rfl u4u rfl ?_
 refine y4y rfl rfl rfl ?_
 refine y0y rfl (fun hc11 => ?_) (fun hc11 => ?_)
 ·try simp at hc11
  obtain ⟨z, hz⟩ : ∃ z, (swK b a k)[j]? = some z := w5w (by omega)
  refine y1y ?_
  refine hK10 _ _ ?_
  clear hK10 K10
  refine x7x fun K12 hK12 => ?_
  refine y6y ?_
  refine r8r x9x r6r (by rfl) ?_
  refine x1x rfl ?_
  refine x1x rfl ?_
  refine a0b rfl rfl (fun hg13 => ?_) (fun hg13 => ?_)
  rotate_left
  ·try simp at hg13
   have hin : x ∈ (swK b a k).take j := by simpa using hg13
   refine x8x rfl rfl ?_
   refine x8x rfl rfl ?_
   refine x8x rfl rfl ?_
   refine x8x rfl rfl ?_
   refine x8x rfl rfl ?_
   refine x8x rfl rfl ?_
   refine x8x rfl rfl ?_
   refine x8x rfl rfl ?_
   refine z0z rfl rfl ?_
   refine x2x rfl ?_
   refine ⟨by kernel_rfl, ?_⟩
   refine hK12 _ _ ?_
   clear hK12 K12
   refine y2y x9x (by rfl) ?_
   refine x1x rfl ?_
   refine u1u (b := 1) rfl rfl (by omega) ?_
   refine x2x rfl ?_
   exact ⟨j + 1, ⟨by omega, by omega⟩, [], (Cov.cons' (t := 10) rfl (by rw [p2p hz]; (simp [hin]; done)) (x4x 11 rfl Cov.nil)), (x4x 0 rfl (x4x 1 rfl (x4x 2 rfl (x4x 7 rfl (x4x 8 rfl (x4x 9 rfl Cov.nil)))))), HE.nil, HE.nil, rfl⟩
  try simp at hg13
  have hin : ¬ x ∈ (swK b a k).take j := by simpa using hg13
  refine x1x rfl ?_
  refine y7y rfl rfl ?_
  refine x1x rfl ?_
  refine y7y rfl rfl ?_
  refine u0u rfl rfl u4u rfl z3z rfl hx ?_
  refine y7y rfl rfl ?_
  refine z5z rfl z3z rfl rfl ?_
  refine y7y rfl rfl ?_
  refine x1x rfl ?_
  refine y7y rfl rfl ?_
  refine x1x rfl ?_
  refine y7y rfl rfl ?_
  refine u0u rfl rfl u4u rfl z3z rfl hz ?_
  refine y7y rfl rfl ?_
  refine z5z rfl z3z rfl rfl ?_
  refine y7y rfl rfl ?_
  refine a8p rfl rfl (by intro a c h; cases h) (.inl rfl) (d6x _ _ _ _) ?_
  refine y5y rfl rfl ?_
  refine x2x rfl ?_
  refine ⟨by kernel_rfl, ?_⟩
  refine hK12 _ _ ?_
  clear hK12 K12
  refine y2y x9x (by rfl) ?_
  refine x1x rfl ?_
  refine u1u (b := 1) rfl rfl (by omega) ?_
  refine x2x rfl ?_
  exact ⟨j + 1, ⟨by omega, by omega⟩, [], (Cov.cons' (t := 10) rfl (by rw [p2p hz]; (simp [hin]; rfl)) (x4x 11 rfl Cov.nil)), (x4x 0 rfl (x4x 1 rfl (x4x 2 rfl (x4x 7 rfl (x4x 8 rfl (x4x 9 rfl Cov.nil)))))), HE.nil, HE.nil, rfl⟩
 try simp at hc11
 obtain rfl : j = (swK b a k).length := by omega
 rw [List.take_length]
 refine v0v ?_
 refine hK9 _ _ ?_
 clear hK10 K10 hK9 K9
 refine x6x x9x (by rfl) ?_
 refine x1x rfl ?_
 refine w6w rfl ?_
 refine x1x rfl ?_
 refine a0b rfl rfl (fun hg14 => ?_) (fun hg14 => ?_)
 rotate_left
 ·try simp at hg14
  have hn : ¬ (g ≤ x.time ∧ x.time < chg g (swK b a k) (d2i g a b k) ((swK a b k).take i) ∧ ¬ x ∈ swK b a k) := fun q => q.2.2 (by simpa using hg14)
  refine x8x rfl rfl ?_
  refine x8x rfl rfl ?_
  refine x8x rfl rfl ?_
  refine x8x rfl rfl ?_
  refine x8x rfl rfl ?_
  refine x8x rfl rfl ?_
  refine y5y rfl rfl ?_
  refine x1x rfl ?_
  refine x8x rfl rfl ?_
  refine x8x rfl rfl ?_
  refine x8x rfl rfl ?_
  refine x8x rfl rfl ?_
  refine x8x rfl rfl ?_
  refine x8x rfl rfl ?_
  refine x8x rfl rfl ?_
  refine y5y rfl rfl ?_
  refine y0y rfl (fun hc18 => ?_) (fun hc18 => ?_)
  ·simp at hc18
  try simp at hc18
  have hn : ¬ (g ≤ x.time ∧ x.time < chg g (swK b a k) (d2i g a b k) ((swK a b k).take i) ∧ ¬ x ∈ swK b a k) := by exact hn
  refine y1y ?_
  refine hK8 _ _ ?_
  clear hK8 K8
  refine y2y x9x (by rfl) ?_
  refine x1x rfl ?_
  refine u1u (b := 1) rfl rfl (by omega) ?_
  refine x2x rfl ?_
  exact ⟨i + 1, ⟨by omega, by omega⟩, [], (Cov.cons' (t := 7) rfl (by rw [a5o hx, if_neg hn]) (x4x 9 rfl Cov.nil)), (x4x 0 rfl (x4x 1 rfl (x4x 2 rfl (x4x 8 rfl Cov.nil)))), HE.nil, HE.nil, rfl⟩
 try simp at hg14
 have hm : ¬ x ∈ swK b a k := by simpa using hg14
 refine x1x rfl ?_
 refine y7y rfl rfl ?_
 refine x1x rfl ?_
 refine y7y rfl rfl ?_
 refine u0u rfl rfl u4u rfl z3z rfl hx ?_
 refine y7y rfl rfl ?_
 refine x0x rfl z3z rfl rfl y9y rfl rfl ?_
 refine y7y rfl rfl ?_
 refine z7z rfl y9y rfl ?_
 refine y7y rfl rfl ?_
 refine x1x rfl ?_
 refine y7y rfl rfl ?_
 refine y4y rfl rfl rfl ?_
 refine z0z rfl rfl ?_
 refine x1x rfl ?_
 refine a0b rfl rfl (fun hg15 => ?_) (fun hg15 => ?_)
 rotate_left
 ·try simp at hg15
  have hn : ¬ (g ≤ x.time ∧ x.time < chg g (swK b a k) (d2i g a b k) ((swK a b k).take i) ∧ ¬ x ∈ swK b a k) := fun q => (by have := q.1; omega)
  refine x8x rfl rfl ?_
  refine x8x rfl rfl ?_
  refine x8x rfl rfl ?_
  refine x8x rfl rfl ?_
  refine x8x rfl rfl ?_
  refine x8x rfl rfl ?_
  refine y5y rfl rfl ?_
  refine y0y rfl (fun hc17 => ?_) (fun hc17 => ?_)
  ·simp at hc17
  try simp at hc17
  have hn : ¬ (g ≤ x.time ∧ x.time < chg g (swK b a k) (d2i g a b k) ((swK a b k).take i) ∧ ¬ x ∈ swK b a k) := by exact hn
  refine y1y ?_
  refine hK8 _ _ ?_
  clear hK8 K8
  refine y2y x9x (by rfl) ?_
  refine x1x rfl ?_
  refine u1u (b := 1) rfl rfl (by omega) ?_
  refine x2x rfl ?_
  exact ⟨i + 1, ⟨by omega, by omega⟩, [], (Cov.cons' (t := 7) rfl (by rw [a5o hx, if_neg hn]) (x4x 9 rfl Cov.nil)), (x4x 0 rfl (x4x 1 rfl (x4x 2 rfl (x4x 8 rfl Cov.nil)))), HE.nil, HE.nil, rfl⟩
 try simp at hg15
 refine x1x rfl ?_
 refine y7y rfl rfl ?_
 refine x1x rfl ?_
 refine y7y rfl rfl ?_
 refine u0u rfl rfl u4u rfl z3z rfl hx ?_
 refine y7y rfl rfl ?_
 refine x0x rfl z3z rfl rfl y9y rfl rfl ?_
 refine y7y rfl rfl ?_
 refine z7z rfl y9y rfl ?_
 refine y7y rfl rfl ?_
 refine x1x rfl ?_
 refine y7y rfl rfl ?_
 refine y4y rfl rfl rfl ?_
 refine z0z rfl rfl ?_
 refine y0y rfl (fun hc16 => ?_) (fun hc16 => ?_)
 rotate_left
 ·try simp at hc16
  have hn : ¬ (g ≤ x.time ∧ x.time < chg g (swK b a k) (d2i g a b k) ((swK a b k).take i) ∧ ¬ x ∈ swK b a k) := by exact fun q => (by have := q.2.1; omega)
  refine y1y ?_
  refine hK8 _ _ ?_
  clear hK8 K8
  refine y2y x9x (by rfl) ?_
  refine x1x rfl ?_
  refine u1u (b := 1) rfl rfl (by omega) ?_
  refine x2x rfl ?_
  exact ⟨i + 1, ⟨by omega, by omega⟩, [], (Cov.cons' (t := 7) rfl (by rw [a5o hx, if_neg hn]) (x4x 9 rfl Cov.nil)), (x4x 0 rfl (x4x 1 rfl (x4x 2 rfl (x4x 8 rfl Cov.nil)))), HE.nil, HE.nil, rfl⟩
 try simp at hc16
 have hy : g ≤ x.time ∧ x.time < chg g (swK b a k) (d2i g a b k) ((swK a b k).take i) ∧ ¬ x ∈ swK b a k := ⟨by omega, by omega, hm⟩
 refine y2y x9x (by rfl) ?_
 refine x1x rfl ?_
 refine x1x rfl ?_
 refine u0u rfl rfl u4u rfl z3z rfl hx ?_
 refine x0x rfl z3z rfl rfl y9y rfl rfl ?_
 refine z7z rfl y9y rfl ?_
 refine x2x rfl ?_
 refine hK8 _ _ ?_
 clear hK8 K8
 refine y2y x9x (by rfl) ?_
 refine x1x rfl ?_
 refine u1u (b := 1) rfl rfl (by omega) ?_
 refine x2x rfl ?_
 exact ⟨i + 1, ⟨by omega, by omega⟩, [], (Cov.cons' (t := 7) rfl (by (rw [a5o hx, if_pos hy]; rfl)) (x4x 9 rfl Cov.nil)), (x4x 0 rfl (x4x 1 rfl (x4x 2 rfl (x4x 8 rfl Cov.nil)))), HE.nil, HE.nil, rfl⟩
set_option maxHeartbeats 1000000 in
theorem b8n (n : Nd) (hw : wk n) : Meth Tryz.prog 135 3 [0, 1, 2] [.agg [pI n.id, .pv (.bool n.up), pI n.inc, pI n.g, .ref 0 0, r7r true n.kept, a1j true n.outs, pI n.led, pI n.version, .ref 1 0, .ref 2 0, pI n.round, pI n.low]] [(0, (0, .row 65 5 ((n.lanes).map (a0v true)))), (1, (0, .row 141 3 ((n.views).map (a1n true)))), (2, (0, .row 3 1 (n.known.map a2h)))] (.agg [pI (nl n (q7q n n.lanes)).id, .pv (.bool (nl n (q7q n n.lanes)).up), pI (nl n (q7q n n.lanes)).inc, pI (nl n (q7q n n.lanes)).g, .ref 0 0, r7r true (nl n (q7q n n.lanes)).kept, a1j true (nl n (q7q n n.lanes)).outs, pI (nl n (q7q n n.lanes)).led, pI (nl n (q7q n n.lanes)).version, .ref 1 0, .ref 2 0, pI (nl n (q7q n n.lanes)).round, pI (nl n (q7q n n.lanes)).low]) [(0, (0, .row 65 5 ((q7q n n.lanes).map (a0v true))))] := by
 refine u7u x9x (fn := Tryz.f135) (by kernel_rfl) (by kernel_rfl) rfl (O0 := [.agg [pI (nl n (q7q n n.lanes)).id, .pv (.bool (nl n (q7q n n.lanes)).up), pI (nl n (q7q n n.lanes)).inc, pI (nl n (q7q n n.lanes)).g, .ref 0 0, r7r true (nl n (q7q n n.lanes)).kept, a1j true (nl n (q7q n n.lanes)).outs, pI (nl n (q7q n n.lanes)).led, pI (nl n (q7q n n.lanes)).version, .ref 1 0, .ref 2 0, pI (nl n (q7q n n.lanes)).round, pI (nl n (q7q n n.lanes)).low]]) 3 2 (v7v rfl) (by rfl) (by repeat (first | exact BndH.nil | refine BndH.row (u6u fun _ => rfl) ?_)) (by repeat (first | exact BndH.nil | refine BndH.row (u6u fun _ => rfl) ?_)) (by rfl) fun γ => ?_
 show Ex Tryz.prog _ _ [(0, .agg [pI n.id, .pv (.bool n.up), pI n.inc, pI n.g, .ref 0 (γ 0), r7r true n.kept, a1j true n.outs, pI n.led, pI n.version, .ref 1 (γ 1), .ref 2 (γ 2), pI n.round, pI n.low])] [(0, ((γ 0), .row 65 5 ((n.lanes).map (a0v true)))), (1, ((γ 1), .row 141 3 ((n.views).map (a1n true)))), (2, ((γ 2), .row 3 1 (n.known.map a2h))), (4, (0, .dead)), (3, (0, .dead))] _
 refine x6x x9x (by rfl) ?_
 refine v4v (id := 3) rfl rfl rfl ?_
 refine v3v (id := 4) z6z a4v rfl ?_
 refine x6x x9x (by rfl) ?_
 refine x2x rfl ?_
 refine x7x fun K1 hK1 => ?_
 refine y6y ?_
 refine u5u (ι := List La × Bool) (fun p γ1 => [(3, .pv (.bool (p.2)))]) (fun p γ1 => [(0, ((γ 0), .row 65 5 ((p.1).map (a0v true))))]) (fun p => (p.2 = true → q7q n p.1 = q7q n n.lanes) ∧ (p.2 = false → p.1 = q7q n n.lanes) ∧ wk (nl n p.1)) (fun p => 2 * c1k p.1 + p.2.toNat) (x4x 1 rfl (x4x 2 rfl Cov.nil)) (x5x 1 rfl (x5x 2 rfl (x5x 3 rfl (x5x 4 rfl HE.nil)))) (n.lanes, true) ⟨fun _ => rfl, fun h => (by cases h), hw⟩ [] (x4x 3 rfl Cov.nil) (HE.row rfl rfl HE.nil) rfl fun p γ1 hi => ?_
 try dsimp only [List.cons_append, List.nil_append]
 obtain ⟨ls, q⟩ := p
 obtain ⟨h1, h2, h3⟩ := hi
 dsimp only at h1 h2 h3 ⊢
 refine x7x fun K2 hK2 => ?_
 refine x6x x9x (by rfl) ?_
 refine x1x rfl ?_
 refine y0y rfl (fun hc3 => ?_) (fun hc3 => ?_)
 rotate_left
 ·try simp at hc3
  have hq : q = false := by simpa using hc3
  subst hq
  have hfin : ls = q7q n n.lanes := h2 rfl
  refine v0v ?_
  refine hK1 _ _ ?_
  clear hK2 K2 hK1 K1
  refine x6x x9x (by rfl) ?_
  refine y8y rfl z6z rfl rfl rfl ?_
  refine u2u rfl rfl z6z rfl rfl rfl rfl ?_
  subst hfin
  refine y3y ?_
  exact ⟨.inr rfl, [γ 0, γ 1, γ 2], rfl, rfl, HE.same (id := 0) rfl (x5x 1 rfl (x5x 2 rfl HE.nil))⟩
 try simp at hc3
 have hq : q = true := hc3
 subst hq
 refine y1y ?_
 refine hK2 _ _ ?_
 clear hK2 K2
 refine y6y ?_
 refine x6x x9x (by rfl) ?_
 refine x2x rfl ?_
 refine x6x x9x (by rfl) ?_
 refine x2x rfl ?_
 refine y6y ?_
 refine u5u (ι := Nat) (fun i γ2 => [(3, .pv (.bool (a8v n ls i))), (4, .pv (.int .i64 (i : Int)))]) (fun i γ2 => [(0, ((γ 0), .row 65 5 ((a0r n ls i).map (a0v true))))]) (fun i => i ≤ ls.length) (fun i => ls.length - i) (x4x 1 rfl (x4x 2 rfl Cov.nil)) (x5x 1 rfl (x5x 2 rfl (x5x 3 rfl (x5x 4 rfl HE.nil)))) 0 (by omega) [] (Cov.cons' (t := 3) rfl (rfl) (x4x 4 rfl Cov.nil)) (HE.row rfl rfl HE.nil) rfl fun i γ2 hi => ?_
 try dsimp only [List.cons_append, List.nil_append]
 refine x7x fun K4 hK4 => ?_
 refine x6x x9x (by rfl) ?_
 refine x1x rfl ?_
 refine x0x rfl z6z rfl rfl w2w rfl rfl ?_
 refine x3x rfl w2w rfl rfl ?_
 refine a1v rfl w2w rfl rfl (by exact List.length_map _) ?_
 refine y4y rfl rfl rfl ?_
 refine y0y rfl (fun hc5 => ?_) (fun hc5 => ?_)
 rotate_left
 ·try simp at hc5
  have hpl : (a0r n ls i).length = ls.length := b3t n ls i
  obtain rfl : i = ls.length := by omega
  refine v0v ?_
  exact ⟨(a0r n ls ls.length, a8v n ls ls.length), ⟨⟨fun h => (c1l h).trans (h1 rfl), fun h => (c1m h).trans (h1 rfl), b2f h3 _⟩, (d1k n ls ls.length)⟩, [], (x4x 3 rfl Cov.nil), (x4x 1 rfl (x4x 2 rfl Cov.nil)), (HE.row rfl rfl HE.nil), (x5x 1 rfl (x5x 2 rfl (x5x 3 rfl (x5x 4 rfl HE.nil)))), rfl⟩
 try simp at hc5
 have hpl : (a0r n ls i).length = ls.length := b3t n ls i
 obtain ⟨l, hp⟩ : ∃ l, (a0r n ls i)[i]? = some l := w5w (by omega)
 have h4 := b2f h3 i
 have h41 : (a0r n ls i).length ≤ 4 := h4.1
 have hb4 := h4.2.2.2.2.1 l (List.mem_of_getElem? hp)
 refine y1y ?_
 refine hK4 _ _ ?_
 clear hK4 K4
 refine x7x fun K6 hK6 => ?_
 refine y6y ?_
 refine q5q x9x r6r (by rfl) ?_
 refine x0x rfl z6z rfl rfl w2w rfl rfl ?_
 refine x3x rfl w2w rfl rfl ?_
 refine x1x rfl ?_
 refine q6q (j := i) rfl rfl w2w rfl v8v rfl rfl (q0q hp) ?_
 refine a0d rfl v8v rfl hp rfl rfl ?_
 refine y8y rfl z6z rfl rfl rfl ?_
 refine x0x rfl z6z rfl rfl w2w rfl rfl ?_
 refine x3x rfl w2w rfl rfl ?_
 refine x1x rfl ?_
 refine q6q (j := i) rfl rfl w2w rfl v8v rfl rfl (q0q hp) ?_
 refine x0x rfl v8v rfl rfl y9y rfl rfl ?_
 refine a3u rfl y9y rfl hp rfl ?_
 refine a6i rfl rfl rfl (by exact c1s (n := nl n (a0r n ls i)) rfl rfl rfl (.cl rfl .nil)) (a7r false (nl n (a0r n ls i)) l.proc (d1h h4) (by have := h4.1; omega) h4.2.2.1) (by exact b0a _) ?_
 refine z1z rfl rfl rfl (b1o true true l (a6u (nl n (a0r n ls i)) l.proc)) ?_
 refine x2x rfl ?_
 refine ⟨by kernel_rfl, ?_⟩
 refine x6x x9x (by rfl) ?_
 refine x1x rfl ?_
 refine x0x rfl z6z rfl rfl w2w rfl rfl ?_
 refine x3x rfl w2w rfl rfl ?_
 refine x1x rfl ?_
 refine q6q (j := i) rfl rfl w2w rfl v8v rfl rfl (q0q hp) ?_
 refine x0x rfl v8v rfl rfl w0w rfl rfl ?_
 refine a3u rfl w0w rfl hp rfl ?_
 refine u3u rfl w0w rfl ?_
 refine y4y rfl rfl rfl ?_
 refine y0y rfl (fun hc7 => ?_) (fun hc7 => ?_)
 rotate_left
 ·try simp at hc7
  have hk := c5p (n := n) hp (by show ¬ same l.done (a6u (nl n (a0r n ls i)) l.proc) < l.done.length; omega)
  refine y1y ?_
  refine hK6 _ _ ?_
  clear hK6 K6
  refine y2y x9x (by rfl) ?_
  refine x1x rfl ?_
  refine y4y rfl rfl rfl ?_
  refine x2x rfl ?_
  exact ⟨i + 1, ⟨by omega, by omega⟩, [], (Cov.cons' (t := 3) rfl (by rw [b0t, hk.2, Bool.or_false]) (Cov.cons' (t := 4) rfl (by rw [u9u (by omega) (by omega)]; rfl) Cov.nil)), (x4x 1 rfl (x4x 2 rfl Cov.nil)), (HE.row rfl (by rw [a8i, hk.1]) HE.nil), (x5x 1 rfl (x5x 2 rfl (x5x 3 rfl (x5x 4 rfl HE.nil)))), rfl⟩
 try simp at hc7
 have hk := c5o (n := n) hp (by show same l.done (a6u (nl n (a0r n ls i)) l.proc) < l.done.length; omega)
 refine q5q x9x r6r (by rfl) ?_
 refine x0x rfl z6z rfl rfl w2w rfl rfl ?_
 refine x3x rfl w2w rfl rfl ?_
 refine x1x rfl ?_
 refine x0x rfl z6z rfl rfl w2w rfl rfl ?_
 refine x3x rfl w2w rfl rfl ?_
 refine x1x rfl ?_
 refine q6q (j := i) rfl rfl w2w rfl v8v rfl rfl (q0q hp) ?_
 refine a0d rfl v8v rfl hp rfl rfl ?_
 refine x1x rfl ?_
 refine z1z rfl rfl rfl (a7s true l 0 (keep n (a0r n ls i) l) (by omega) (by omega) (by have := d6s n (a0r n ls i) l; omega) (fun p hp => by have := hb4.2 p hp; omega)) ?_
 refine q6q (j := i) rfl rfl w2w rfl v8v rfl rfl (q0q hp) ?_
 refine a0n (el' := a1h l 0 (keep n (a0r n ls i) l)) rfl rfl v8v rfl rfl rfl hp rfl (a3t rfl) rfl rfl ?_
 refine ⟨by kernel_rfl, ?_⟩
 refine y2y x9x (by rfl) ?_
 refine x2x rfl ?_
 refine hK6 _ _ ?_
 clear hK6 K6
 refine y2y x9x (by rfl) ?_
 refine x1x rfl ?_
 refine y4y rfl rfl rfl ?_
 refine x2x rfl ?_
 exact ⟨i + 1, ⟨by omega, by omega⟩, [], (Cov.cons' (t := 3) rfl (by rw [b0t, hk.2, Bool.or_true]) (Cov.cons' (t := 4) rfl (by rw [u9u (by omega) (by omega)]; rfl) Cov.nil)), (x4x 1 rfl (x4x 2 rfl Cov.nil)), (HE.row rfl (by rw [a8i, hk.1]) HE.nil), (x5x 1 rfl (x5x 2 rfl (x5x 3 rfl (x5x 4 rfl HE.nil)))), rfl⟩
set_option maxHeartbeats 1000000 in
theorem b6c (c : Bool) (n m : Nd) (hn : wk n) (hm : wk m) (hid : n.id = m.id) (hv : 0 ≤ n.version ∧ n.version ≤ 9998) : Meth Tryz.prog 134 3 [0, 1, 2] [.agg (a1i c n), .agg [pI m.id, .pv (.bool m.up), pI m.inc, pI m.g, .ref 0 0, r7r true m.kept, a1j true m.outs, pI m.led, pI m.version, .ref 1 0, .ref 2 0, pI m.round, pI m.low]] [(0, (0, .row 65 5 ((m.lanes).map (a0v true)))), (1, (0, .row 141 3 ((m.views).map (a1n true)))), (2, (0, .row 3 1 (m.known.map a2h)))] (.agg [pI ({ m with version := a3b n m 3 } : Nd).id, .pv (.bool ({ m with version := a3b n m 3 } : Nd).up), pI ({ m with version := a3b n m 3 } : Nd).inc, pI ({ m with version := a3b n m 3 } : Nd).g, .ref 0 0, r7r true ({ m with version := a3b n m 3 } : Nd).kept, a1j true ({ m with version := a3b n m 3 } : Nd).outs, pI ({ m with version := a3b n m 3 } : Nd).led, pI ({ m with version := a3b n m 3 } : Nd).version, .ref 1 0, .ref 2 0, pI ({ m with version := a3b n m 3 } : Nd).round, pI ({ m with version := a3b n m 3 } : Nd).low]) [] := by
 refine u7u x9x (fn := Tryz.f134) (by kernel_rfl) (by kernel_rfl) rfl (O0 := [.agg [pI ({ m with version := a3b n m 3 } : Nd).id, .pv (.bool ({ m with version := a3b n m 3 } : Nd).up), pI ({ m with version := a3b n m 3 } : Nd).inc, pI ({ m with version := a3b n m 3 } : Nd).g, .ref 0 0, r7r true ({ m with version := a3b n m 3 } : Nd).kept, a1j true ({ m with version := a3b n m 3 } : Nd).outs, pI ({ m with version := a3b n m 3 } : Nd).led, pI ({ m with version := a3b n m 3 } : Nd).version, .ref 1 0, .ref 2 0, pI ({ m with version := a3b n m 3 } : Nd).round, pI ({ m with version := a3b n m 3 } : Nd).low]]) 3 3 (v7v rfl) (by rfl) (by repeat (first | exact BndH.nil | refine BndH.row (u6u fun _ => rfl) ?_)) (by repeat (exact BndH.nil)) (by rfl) fun γ => ?_
 show Ex Tryz.prog _ _ [(0, .agg (a1i c n)), (1, .agg [pI m.id, .pv (.bool m.up), pI m.inc, pI m.g, .ref 0 (γ 0), r7r true m.kept, a1j true m.outs, pI m.led, pI m.version, .ref 1 (γ 1), .ref 2 (γ 2), pI m.round, pI m.low])] [(0, ((γ 0), .row 65 5 ((m.lanes).map (a0v true)))), (1, ((γ 1), .row 141 3 ((m.views).map (a1n true)))), (2, ((γ 2), .row 3 1 (m.known.map a2h))), (5, (0, .dead)), (4, (0, .dead)), (3, (0, .dead))] _
 refine x6x x9x (by rfl) ?_
 refine v4v (id := 3) rfl rfl rfl ?_
 refine v4v (id := 4) rfl rfl rfl ?_
 refine v3v (id := 5) z6z a4v rfl ?_
 refine x7x fun K1 hK1 => ?_
 refine x6x x9x (by rfl) ?_
 refine x2x rfl ?_
 refine y6y ?_
 refine u5u (ι := Nat) (fun k γ1 => [(5, .pv (.int .i64 (k : Int)))]) (fun k γ1 => [(4, ((0 + 1), .box 28 [pI m.id, .pv (.bool m.up), pI m.inc, pI m.g, .ref 0 (γ 0), r7r true m.kept, a1j true m.outs, pI m.led, pI (a3b n m k), .ref 1 (γ 1), .ref 2 (γ 2), pI m.round, pI m.low]))]) (fun k => k ≤ 3) (fun k => 3 - k) (x4x 2 rfl (x4x 3 rfl (x4x 4 rfl Cov.nil))) (x5x 0 rfl (x5x 1 rfl (x5x 2 rfl (x5x 3 rfl (x5x 5 rfl HE.nil))))) 0 (by omega) [] (x4x 5 rfl Cov.nil) (HE.box rfl (by rfl) HE.nil) rfl fun k γ1 hi => ?_
 try dsimp only [List.cons_append, List.nil_append]
 refine x7x fun K2 hK2 => ?_
 refine x6x x9x (by rfl) ?_
 refine x1x rfl ?_
 refine y4y rfl rfl rfl ?_
 refine y0y rfl (fun hc3 => ?_) (fun hc3 => ?_)
 rotate_left
 ·try simp at hc3
  obtain rfl : k = 3 := by omega
  refine v0v ?_
  refine hK1 _ _ ?_
  clear hK2 K2 hK1 K1
  refine x6x x9x (by rfl) ?_
  refine y8y rfl z6z rfl rfl rfl ?_
  refine u2u rfl rfl z6z rfl rfl rfl rfl ?_
  refine y3y ?_
  exact ⟨.inr rfl, [γ 0, γ 1, γ 2], rfl, rfl, HE.same (id := 0) rfl (x5x 1 rfl (x5x 2 rfl HE.nil))⟩
 try simp at hc3
 refine y1y ?_
 refine hK2 _ _ ?_
 clear hK2 K2
 refine x7x fun K4 hK4 => ?_
 refine y6y ?_
 refine q5q x9x r6r (by rfl) ?_
 refine x1x rfl ?_
 refine x0x rfl z6z rfl rfl y9y rfl rfl ?_
 refine x3x rfl y9y rfl rfl ?_
 refine y4y rfl rfl rfl ?_
 refine x1x rfl ?_
 refine a0b rfl rfl (fun hg5 => ?_) (fun hg5 => ?_)
 rotate_left
 ·try simp at hg5
  have hs : (k : Int) = m.id ∨ a1s n (k : Int) = a1s m (k : Int) := .inl (by exact hg5)
  refine x8x rfl rfl ?_
  refine x8x rfl rfl ?_
  refine x8x rfl rfl ?_
  refine x8x rfl rfl ?_
  refine x8x rfl rfl ?_
  refine x8x rfl rfl ?_
  refine x8x rfl rfl ?_
  refine y5y rfl rfl ?_
  refine ⟨by kernel_rfl, ?_⟩
  refine y0y rfl (fun hc7 => ?_) (fun hc7 => ?_)
  ·simp at hc7
  try simp at hc7
  have hs : (k : Int) = m.id ∨ a1s n (k : Int) = a1s m (k : Int) := by exact hs
  refine y1y ?_
  refine hK4 _ _ ?_
  clear hK4 K4
  refine y2y x9x (by rfl) ?_
  refine x1x rfl ?_
  refine y4y rfl rfl rfl ?_
  refine x2x rfl ?_
  exact ⟨k + 1, ⟨by omega, by omega⟩, [], (Cov.cons' (t := 5) rfl (by rw [u9u (by omega) (by omega)]; rfl) Cov.nil), (x4x 2 rfl (x4x 3 rfl (x4x 4 rfl Cov.nil))), (HE.box rfl (by rw [d1l hid hs]) HE.nil), (x5x 0 rfl (x5x 1 rfl (x5x 2 rfl (x5x 3 rfl (x5x 5 rfl HE.nil))))), rfl⟩
 try simp at hg5
 have hi0 : ¬ (k : Int) = m.id := by exact hg5
 refine y8y rfl z6z rfl rfl rfl ?_
 refine y7y rfl rfl ?_
 refine x1x rfl ?_
 refine y7y rfl rfl ?_
 refine z1z rfl rfl rfl (b0k c n k (by omega) hn.2.2.2.1 (by have := c1j hn; omega) (by have := hn.1; omega)) ?_
 refine y7y rfl rfl ?_
 refine y8y rfl z6z rfl rfl rfl ?_
 refine y7y rfl rfl ?_
 refine x1x rfl ?_
 refine y7y rfl rfl ?_
 refine a6i rfl rfl rfl (by exact c1s (n := ({ m with version := a3b n m k } : Nd)) rfl rfl rfl (.cl rfl .nil)) (b0k false ({ m with version := a3b n m k } : Nd) k (by omega) hm.2.2.2.1 (by have := c1j hm; show (a0l m).length ≤ 5000000; omega) (by have := hm.1; show m.lanes.length ≤ 1048576; omega)) (by exact b0a _) ?_
 refine y7y rfl rfl ?_
 refine z1z rfl rfl rfl (b9n true true (a1s n (k : Int)) (a1s m (k : Int))) ?_
 refine y7y rfl rfl ?_
 refine w6w rfl ?_
 refine z0z rfl rfl ?_
 refine ⟨by kernel_rfl, ?_⟩
 refine y0y rfl (fun hc6 => ?_) (fun hc6 => ?_)
 rotate_left
 ·try simp at hc6
  have hs : (k : Int) = m.id ∨ a1s n (k : Int) = a1s m (k : Int) := by exact .inr hc6
  refine y1y ?_
  refine hK4 _ _ ?_
  clear hK4 K4
  refine y2y x9x (by rfl) ?_
  refine x1x rfl ?_
  refine y4y rfl rfl rfl ?_
  refine x2x rfl ?_
  exact ⟨k + 1, ⟨by omega, by omega⟩, [], (Cov.cons' (t := 5) rfl (by rw [u9u (by omega) (by omega)]; rfl) Cov.nil), (x4x 2 rfl (x4x 3 rfl (x4x 4 rfl Cov.nil))), (HE.box rfl (by rw [d1l hid hs]) HE.nil), (x5x 0 rfl (x5x 1 rfl (x5x 2 rfl (x5x 3 rfl (x5x 5 rfl HE.nil))))), rfl⟩
 try simp at hc6
 have hd : ¬ a1s n (k : Int) = a1s m (k : Int) := by exact hc6
 refine y2y x9x (by rfl) ?_
 refine x0x rfl z6z rfl rfl y9y rfl rfl ?_
 refine x3x rfl y9y rfl rfl ?_
 refine a2g (.int .i64 (n.version + 1)) rfl rfl rfl (a9k rfl rfl (by omega) (by omega)) ?_
 refine x0x rfl z6z rfl rfl y9y rfl rfl ?_
 refine u8u rfl rfl y9y rfl rfl rfl rfl rfl (by simp only [a0p]; rfl) ?_
 refine hK4 _ _ ?_
 clear hK4 K4
 refine y2y x9x (by rfl) ?_
 refine x1x rfl ?_
 refine y4y rfl rfl rfl ?_
 refine x2x rfl ?_
 exact ⟨k + 1, ⟨by omega, by omega⟩, [], (Cov.cons' (t := 5) rfl (by rw [u9u (by omega) (by omega)]; rfl) Cov.nil), (x4x 2 rfl (x4x 3 rfl (x4x 4 rfl Cov.nil))), (HE.box rfl (by (rw [d6v hid hi0 hd]; rfl)) HE.nil), (x5x 0 rfl (x5x 1 rfl (x5x 2 rfl (x5x 3 rfl (x5x 5 rfl HE.nil))))), rfl⟩
end
section
set_option maxHeartbeats 2000000 in
theorem b8o (c : Bool) (n : Nd) (f inc ver g : Int) (es : List Ev) : a0z Tryz.prog 52 [.agg (a1i c n), .pv (.int .i64 f), .pv (.int .i64 inc), .pv (.int .i64 ver), .pv (.int .i64 g), r7r c es] (.agg (a1i true (p3p n f inc ver g es))) := by
 refine z4z x9x (fn := Tryz.f52) (by kernel_rfl) (by kernel_rfl) rfl (outs := [.agg (a1i true (p3p n f inc ver g es))]) (by rfl) (v7v rfl) 12 ?_
 refine x6x x9x (by rfl) ?_
 refine v4v (id := 0) rfl rfl rfl ?_
 refine v3v (id := 1) z6z a4v rfl ?_
 refine x7x fun K1 hK1 => ?_
 refine x6x x9x (by rfl) ?_
 refine y8y rfl z6z rfl rfl rfl ?_
 refine z1z rfl rfl rfl (b4j c n) ?_
 refine w6w rfl ?_
 refine y0y rfl (fun hc2 => ?_) (fun hc2 => ?_)
 ·try simp at hc2
  have fX : ¬ a1r n := a5g (by simpa using hc2)
  refine x6x x9x (by rfl) ?_
  refine a0c z6z rfl a4v rfl (by simp only [pI, y9y, T3, b5n, T4, p4p, T22, w2w, T23, u4u, T24, p9p, T25, p1p, T26, a2w, r2r, AV.okc, AV.one, Value.oneCell', List.map_cons, List.map_nil, List.getElem?_cons_zero, List.getElem?_cons_succ, List.take_succ_cons, List.take_zero, List.drop_succ_cons, List.drop_zero, List.cons_append, List.nil_append, List.length_cons, List.length_nil, if_true, and_self, Nat.reduceAdd, Nat.reduceLeDiff]; rfl) ?_
  refine u2u rfl rfl z6z rfl rfl rfl rfl ?_
  refine y3y ⟨.inr rfl, ?_⟩
  clear hK1 K1
  (rw [d5a fX]; exact ⟨_, _, rfl, d9b⟩)
 try simp at hc2
 have fK : a1r n := b1e.1 (by simpa using hc2)
 have fS := fK.1
 have fB := a1y fS
 have fV := fS.2.2.2.2.2.1
 have fQ := fS.2.2.2.2.2.2.1
 have fb := d8o fS
 refine y1y ?_
 refine hK1 _ _ ?_
 clear hK1 K1
 refine x6x x9x (by rfl) ?_
 refine y8y rfl z6z rfl rfl rfl ?_
 refine v2v [6, 7, 8] [_, _, _] (a5e c n fb) rfl rfl rfl (by decide) rfl rfl (by repeat (first | exact InH.nil | refine InH.cons rfl ?_)) (by (simp only [pI, z8z, z9z, p8p, gl, nx, p6p, Nat.beq]; rfl)) (by (simp only [pI, z8z, z9z, p8p, gl, nx, p6p, Nat.beq]; rfl)) ?_
 refine v3v (id := 2) z6z a4v rfl ?_
 refine u2u rfl rfl z6z rfl rfl rfl rfl ?_
 refine x7x fun K3 hK3 => ?_
 refine q5q x9x r6r (by rfl) ?_
 refine x0x rfl z6z rfl rfl b5n rfl rfl ?_
 refine x3x rfl b5n rfl rfl ?_
 refine w6w rfl ?_
 refine x1x rfl ?_
 refine a0b rfl rfl (fun hg4 => ?_) (fun hg4 => ?_)
 rotate_left
 ·try simp at hg4
  have fU : ¬ a0h n f inc ver g es := by (rintro ⟨m1, m2, m3, m4, m5, m6, m7, m8, m9⟩; (simp_all; done))
  refine x8x rfl rfl ?_
  refine x8x rfl rfl ?_
  refine z0z rfl rfl ?_
  refine x1x rfl ?_
  refine x8x rfl rfl ?_
  refine x8x rfl rfl ?_
  refine x8x rfl rfl ?_
  refine x8x rfl rfl ?_
  refine z0z rfl rfl ?_
  refine x1x rfl ?_
  refine x8x rfl rfl ?_
  refine x8x rfl rfl ?_
  refine x8x rfl rfl ?_
  refine x8x rfl rfl ?_
  refine x8x rfl rfl ?_
  refine x8x rfl rfl ?_
  refine z0z rfl rfl ?_
  refine x1x rfl ?_
  refine x8x rfl rfl ?_
  refine x8x rfl rfl ?_
  refine z0z rfl rfl ?_
  refine x1x rfl ?_
  refine x8x rfl rfl ?_
  refine x8x rfl rfl ?_
  refine x8x rfl rfl ?_
  refine z0z rfl rfl ?_
  refine x1x rfl ?_
  refine x8x rfl rfl ?_
  refine x8x rfl rfl ?_
  refine x8x rfl rfl ?_
  refine x8x rfl rfl ?_
  refine z0z rfl rfl ?_
  refine ⟨by kernel_rfl, ?_⟩
  refine y0y rfl (fun hc37 => ?_) (fun hc37 => ?_)
  rotate_left
  ·simp at hc37
  try simp at hc37
  have fU : ¬ a0h n f inc ver g es := by exact fU
  refine x6x x9x (by rfl) ?_
  refine y8y rfl z6z rfl rfl rfl ?_
  refine u2u rfl rfl z6z rfl rfl rfl rfl ?_
  refine y3y ⟨.inr rfl, ?_⟩
  clear hK3 K3
  (rw [b1f fK fU]; exact ⟨_, _, rfl, b8d (n := n) rfl rfl rfl⟩)
 try simp at hg4
 have fUp : n.up = true := by exact hg4
 refine x1x rfl ?_
 refine y7y rfl rfl ?_
 refine z1z rfl rfl rfl (q3q ..) ?_
 refine y7y rfl rfl ?_
 refine w6w rfl ?_
 refine y5y rfl rfl ?_
 refine x1x rfl ?_
 refine a0b rfl rfl (fun hg5 => ?_) (fun hg5 => ?_)
 rotate_left
 ·try simp at hg5
  have fU : ¬ a0h n f inc ver g es := by (rintro ⟨m1, m2, m3, m4, m5, m6, m7, m8, m9⟩; omega)
  refine x8x rfl rfl ?_
  refine x8x rfl rfl ?_
  refine x8x rfl rfl ?_
  refine z0z rfl rfl ?_
  refine x1x rfl ?_
  refine x8x rfl rfl ?_
  refine x8x rfl rfl ?_
  refine x8x rfl rfl ?_
  refine x8x rfl rfl ?_
  refine x8x rfl rfl ?_
  refine x8x rfl rfl ?_
  refine z0z rfl rfl ?_
  refine x1x rfl ?_
  refine x8x rfl rfl ?_
  refine x8x rfl rfl ?_
  refine z0z rfl rfl ?_
  refine x1x rfl ?_
  refine x8x rfl rfl ?_
  refine x8x rfl rfl ?_
  refine x8x rfl rfl ?_
  refine z0z rfl rfl ?_
  refine x1x rfl ?_
  refine x8x rfl rfl ?_
  refine x8x rfl rfl ?_
  refine x8x rfl rfl ?_
  refine x8x rfl rfl ?_
  refine z0z rfl rfl ?_
  refine ⟨by kernel_rfl, ?_⟩
  refine y0y rfl (fun hc36 => ?_) (fun hc36 => ?_)
  rotate_left
  ·simp at hc36
  try simp at hc36
  have fU : ¬ a0h n f inc ver g es := by exact fU
  refine x6x x9x (by rfl) ?_
  refine y8y rfl z6z rfl rfl rfl ?_
  refine u2u rfl rfl z6z rfl rfl rfl rfl ?_
  refine y3y ⟨.inr rfl, ?_⟩
  clear hK3 K3
  (rw [b1f fK fU]; exact ⟨_, _, rfl, b8d (n := n) rfl rfl rfl⟩)
 try simp at hg5
 refine x1x rfl ?_
 refine y7y rfl rfl ?_
 refine x0x rfl z6z rfl rfl y9y rfl rfl ?_
 refine y7y rfl rfl ?_
 refine x3x rfl y9y rfl rfl ?_
 refine y7y rfl rfl ?_
 refine y4y rfl rfl rfl ?_
 refine y5y rfl rfl ?_
 refine x1x rfl ?_
 refine a0b rfl rfl (fun hg6 => ?_) (fun hg6 => ?_)
 rotate_left
 ·try simp at hg6
  have fU : ¬ a0h n f inc ver g es := by (rintro ⟨m1, m2, m3, m4, m5, m6, m7, m8, m9⟩; omega)
  refine x8x rfl rfl ?_
  refine x8x rfl rfl ?_
  refine x8x rfl rfl ?_
  refine x8x rfl rfl ?_
  refine x8x rfl rfl ?_
  refine z0z rfl rfl ?_
  refine x1x rfl ?_
  refine x8x rfl rfl ?_
  refine x8x rfl rfl ?_
  refine z0z rfl rfl ?_
  refine x1x rfl ?_
  refine x8x rfl rfl ?_
  refine x8x rfl rfl ?_
  refine x8x rfl rfl ?_
  refine z0z rfl rfl ?_
  refine x1x rfl ?_
  refine x8x rfl rfl ?_
  refine x8x rfl rfl ?_
  refine x8x rfl rfl ?_
  refine x8x rfl rfl ?_
  refine z0z rfl rfl ?_
  refine ⟨by kernel_rfl, ?_⟩
  refine y0y rfl (fun hc35 => ?_) (fun hc35 => ?_)
  rotate_left
  ·simp at hc35
  try simp at hc35
  have fU : ¬ a0h n f inc ver g es := by exact fU
  refine x6x x9x (by rfl) ?_
  refine y8y rfl z6z rfl rfl rfl ?_
  refine u2u rfl rfl z6z rfl rfl rfl rfl ?_
  refine y3y ⟨.inr rfl, ?_⟩
  clear hK3 K3
  (rw [b1f fK fU]; exact ⟨_, _, rfl, b8d (n := n) rfl rfl rfl⟩)
 try simp at hg6
 have f4 : ¬ f = n.id := by exact hg6
 refine x1x rfl ?_
 refine y7y rfl rfl ?_
 refine x1x rfl ?_
 refine y7y rfl rfl ?_
 refine x1x rfl ?_
 refine y7y rfl rfl ?_
 refine a0c v6v rfl a3s rfl (by simp only [pI, y9y, T3, u4u, T24, a2w, r2r, AV.okc, AV.one, Value.oneCell', List.map_cons, List.map_nil, List.getElem?_cons_zero, List.getElem?_cons_succ, List.take_succ_cons, List.take_zero, List.drop_succ_cons, List.drop_zero, List.cons_append, List.nil_append, List.length_cons, List.length_nil, if_true, and_self, Nat.reduceAdd, Nat.reduceLeDiff]; rfl) ?_
 refine y7y rfl rfl ?_
 refine z1z rfl rfl rfl (a9e c ⟨inc, ver, es⟩) ?_
 refine y7y rfl rfl ?_
 refine w6w rfl ?_
 refine y5y rfl rfl ?_
 refine x1x rfl ?_
 refine a0b rfl rfl (fun hg7 => ?_) (fun hg7 => ?_)
 rotate_left
 ·try simp at hg7
  have fvi : ¬ c8n ⟨inc, ver, es⟩ := a5g (by simpa using hg7)
  have fU : ¬ a0h n f inc ver g es := by (rintro ⟨m1, m2, m3, m4, m5, m6, m7, m8, m9⟩; exact fvi ⟨⟨by show 0 ≤ inc; omega, m5.2⟩, m6, m8⟩)
  refine x8x rfl rfl ?_
  refine z0z rfl rfl ?_
  refine x1x rfl ?_
  refine x8x rfl rfl ?_
  refine x8x rfl rfl ?_
  refine x8x rfl rfl ?_
  refine z0z rfl rfl ?_
  refine x1x rfl ?_
  refine x8x rfl rfl ?_
  refine x8x rfl rfl ?_
  refine x8x rfl rfl ?_
  refine x8x rfl rfl ?_
  refine z0z rfl rfl ?_
  refine ⟨by kernel_rfl, ?_⟩
  refine y0y rfl (fun hc34 => ?_) (fun hc34 => ?_)
  rotate_left
  ·simp at hc34
  try simp at hc34
  have fU : ¬ a0h n f inc ver g es := by exact fU
  refine x6x x9x (by rfl) ?_
  refine y8y rfl z6z rfl rfl rfl ?_
  refine u2u rfl rfl z6z rfl rfl rfl rfl ?_
  refine y3y ⟨.inr rfl, ?_⟩
  clear hK3 K3
  (rw [b1f fK fU]; exact ⟨_, _, rfl, b8d (n := n) rfl rfl rfl⟩)
 try simp at hg7
 have fvi : c8n ⟨inc, ver, es⟩ := b1e.1 (by simpa using hg7)
 have fv1 := fvi.1
 have fv2 := fvi.2.1
 have fv3 : a8k okE a2p es 100 = true := fvi.2.2
 dsimp only at fv1 fv2
 refine x1x rfl ?_
 refine y7y rfl rfl ?_
 refine y4y rfl rfl rfl ?_
 refine y5y rfl rfl ?_
 refine x1x rfl ?_
 refine a0b rfl rfl (fun hg8 => ?_) (fun hg8 => ?_)
 rotate_left
 ·try simp at hg8
  have fU : ¬ a0h n f inc ver g es := by (rintro ⟨m1, m2, m3, m4, m5, m6, m7, m8, m9⟩; omega)
  refine x8x rfl rfl ?_
  refine x8x rfl rfl ?_
  refine z0z rfl rfl ?_
  refine x1x rfl ?_
  refine x8x rfl rfl ?_
  refine x8x rfl rfl ?_
  refine x8x rfl rfl ?_
  refine x8x rfl rfl ?_
  refine z0z rfl rfl ?_
  refine ⟨by kernel_rfl, ?_⟩
  refine y0y rfl (fun hc33 => ?_) (fun hc33 => ?_)
  rotate_left
  ·simp at hc33
  try simp at hc33
  have fU : ¬ a0h n f inc ver g es := by exact fU
  refine x6x x9x (by rfl) ?_
  refine y8y rfl z6z rfl rfl rfl ?_
  refine u2u rfl rfl z6z rfl rfl rfl rfl ?_
  refine y3y ⟨.inr rfl, ?_⟩
  clear hK3 K3
  (rw [b1f fK fU]; exact ⟨_, _, rfl, b8d (n := n) rfl rfl rfl⟩)
 try simp at hg8
 refine x1x rfl ?_
 refine y7y rfl rfl ?_
 refine z1z rfl rfl rfl (q3q ..) ?_
 refine y7y rfl rfl ?_
 refine w6w rfl ?_
 refine y5y rfl rfl ?_
 refine x1x rfl ?_
 refine a0b rfl rfl (fun hg9 => ?_) (fun hg9 => ?_)
 rotate_left
 ·try simp at hg9
  have fU : ¬ a0h n f inc ver g es := by (rintro ⟨m1, m2, m3, m4, m5, m6, m7, m8, m9⟩; omega)
  refine x8x rfl rfl ?_
  refine x8x rfl rfl ?_
  refine x8x rfl rfl ?_
  refine z0z rfl rfl ?_
  refine ⟨by kernel_rfl, ?_⟩
  refine y0y rfl (fun hc32 => ?_) (fun hc32 => ?_)
  rotate_left
  ·simp at hc32
  try simp at hc32
  have fU : ¬ a0h n f inc ver g es := by exact fU
  refine x6x x9x (by rfl) ?_
  refine y8y rfl z6z rfl rfl rfl ?_
  refine u2u rfl rfl z6z rfl rfl rfl rfl ?_
  refine y3y ⟨.inr rfl, ?_⟩
  clear hK3 K3
  (rw [b1f fK fU]; exact ⟨_, _, rfl, b8d (n := n) rfl rfl rfl⟩)
 try simp at hg9
 refine x0x rfl z6z rfl rfl y9y rfl rfl ?_
 refine y7y rfl rfl ?_
 refine x3x rfl y9y rfl rfl ?_
 refine y7y rfl rfl ?_
 refine z1z rfl rfl rfl (a1z ..) ?_
 refine y7y rfl rfl ?_
 refine y4y rfl rfl rfl ?_
 refine y5y rfl rfl ?_
 refine ⟨by kernel_rfl, ?_⟩
 refine y0y rfl (fun hc10 => ?_) (fun hc10 => ?_)
 ·try simp at hc10
  have fU : ¬ a0h n f inc ver g es := by (rintro ⟨m1, m2, m3, m4, m5, m6, m7, m8, m9⟩; omega)
  refine x6x x9x (by rfl) ?_
  refine y8y rfl z6z rfl rfl rfl ?_
  refine u2u rfl rfl z6z rfl rfl rfl rfl ?_
  refine y3y ⟨.inr rfl, ?_⟩
  clear hK3 K3
  (rw [b1f fK fU]; exact ⟨_, _, rfl, b8d (n := n) rfl rfl rfl⟩)
 try simp at hc10
 refine y1y ?_
 refine hK3 _ _ ?_
 clear hK3 K3
 refine x7x fun K11 hK11 => ?_
 refine x6x x9x (by rfl) ?_
 refine x2x rfl ?_
 refine y6y ?_
 refine w4w 5 rfl fun hlen => ?_
 refine u5u (ι := Nat) (fun i γ1 => [(14, .pv (.int .i64 (i : Int)))]) (fun i γ1 => []) (fun i => i ≤ es.length ∧ c8f es (fun _ e => s0s e.to = n.id ∧ (e.from' = -1 ∨ s0s e.from' = f)) i) (fun i => es.length - i) (x4x 1 rfl (x4x 2 rfl (x4x 3 rfl (x4x 4 rfl (x4x 5 rfl (x4x 6 rfl (x4x 12 rfl (x4x 13 rfl Cov.nil)))))))) (x5x 0 rfl (x5x 1 rfl (x5x 2 rfl (x5x 3 rfl (x5x 4 rfl (x5x 5 rfl (x5x 6 rfl (x5x 7 rfl (x5x 8 rfl (x5x 9 rfl (x5x 10 rfl (x5x 11 rfl HE.nil)))))))))))) 0 ⟨by omega, a3x⟩ [] (x4x 14 rfl Cov.nil) HE.nil rfl fun i γ1 hi => ?_
 try dsimp only [List.cons_append, List.nil_append]
 obtain ⟨k1, k2⟩ := hi
 refine x7x fun K12 hK12 => ?_
 refine x6x x9x (by rfl) ?_
 refine x1x rfl ?_
 refine x1x rfl ?_
 refine u3u rfl u4u rfl ?_
 refine y4y rfl rfl rfl ?_
 refine y0y rfl (fun hc13 => ?_) (fun hc13 => ?_)
 ·try simp at hc13
  obtain ⟨e, he⟩ : ∃ e, es[i]? = some e := w5w (by omega)
  have heo : b7u e := of_decide_eq_true ((a2l fv3).2 e (List.mem_of_getElem? he))
  have heb := heo.2.2.1
  refine y1y ?_
  refine hK12 _ _ ?_
  clear hK12 K12
  refine x7x fun K14 hK14 => ?_
  refine y6y ?_
  refine q5q x9x r6r (by rfl) ?_
  refine x1x rfl ?_
  refine x1x rfl ?_
  refine u0u rfl rfl u4u rfl z3z rfl he ?_
  refine x0x rfl z3z rfl rfl y9y rfl rfl ?_
  refine z7z rfl y9y rfl ?_
  refine z1z rfl rfl rfl (a5u ..) ?_
  refine x0x rfl z6z rfl rfl y9y rfl rfl ?_
  refine x3x rfl y9y rfl rfl ?_
  refine y4y rfl rfl rfl ?_
  refine x1x rfl ?_
  refine a0b rfl rfl (fun hg15 => ?_) (fun hg15 => ?_)
  rotate_left
  ·try simp at hg15
   have fE : ¬ (s0s e.to = n.id ∧ (e.from' = -1 ∨ s0s e.from' = f)) := fun q => (by have := q.1; omega)
   refine x8x rfl rfl ?_
   refine x8x rfl rfl ?_
   refine x8x rfl rfl ?_
   refine x8x rfl rfl ?_
   refine x8x rfl rfl ?_
   refine x8x rfl rfl ?_
   refine p0p rfl rfl ?_
   refine p0p rfl rfl ?_
   refine p0p rfl rfl ?_
   refine p0p rfl rfl ?_
   refine p0p rfl rfl ?_
   refine p0p rfl rfl ?_
   refine p0p rfl rfl ?_
   refine p0p rfl rfl ?_
   refine x8x rfl rfl ?_
   refine z0z rfl rfl ?_
   refine ⟨by kernel_rfl, ?_⟩
   refine y0y rfl (fun hc19 => ?_) (fun hc19 => ?_)
   rotate_left
   ·simp at hc19
   try simp at hc19
   have fE : ¬ (s0s e.to = n.id ∧ (e.from' = -1 ∨ s0s e.from' = f)) := by exact fE
   have fU : ¬ a0h n f inc ver g es := fun q => fE (q.2.2.2.2.2.2.2.2 e (List.mem_of_getElem? he))
   refine x6x x9x (by rfl) ?_
   refine y8y rfl z6z rfl rfl rfl ?_
   refine u2u rfl rfl z6z rfl rfl rfl rfl ?_
   refine y3y ⟨.inr rfl, ?_⟩
   clear hK14 K14 hK11 K11
   (rw [b1f fK fU]; exact ⟨_, _, rfl, b8d (n := n) rfl rfl rfl⟩)
  try simp at hg15
  have e1 : s0s e.to = n.id := by exact hg15
  refine x1x rfl ?_
  refine y7y rfl rfl ?_
  refine x1x rfl ?_
  refine y7y rfl rfl ?_
  refine u0u rfl rfl u4u rfl z3z rfl he ?_
  refine y7y rfl rfl ?_
  refine x0x rfl z3z rfl rfl y9y rfl rfl ?_
  refine y7y rfl rfl ?_
  refine z7z rfl y9y rfl ?_
  refine y7y rfl rfl ?_
  refine y4y rfl rfl rfl ?_
  refine y7y rfl rfl ?_
  refine x1x rfl ?_
  refine a0b rfl rfl (fun hg16 => ?_) (fun hg16 => ?_)
  rotate_left
  ·try simp at hg16
   have hE : s0s e.to = n.id ∧ (e.from' = -1 ∨ s0s e.from' = f) := ⟨e1, .inl (by omega)⟩
   refine x8x rfl rfl ?_
   refine x8x rfl rfl ?_
   refine x8x rfl rfl ?_
   refine x8x rfl rfl ?_
   refine x8x rfl rfl ?_
   refine x8x rfl rfl ?_
   refine x8x rfl rfl ?_
   refine y7y rfl rfl ?_
   refine y5y rfl rfl ?_
   refine y5y rfl rfl ?_
   refine ⟨by kernel_rfl, ?_⟩
   refine y0y rfl (fun hc18 => ?_) (fun hc18 => ?_)
   ·simp at hc18
   try simp at hc18
   have hE : s0s e.to = n.id ∧ (e.from' = -1 ∨ s0s e.from' = f) := by exact hE
   refine y1y ?_
   refine hK14 _ _ ?_
   clear hK14 K14
   refine y2y x9x (by rfl) ?_
   refine x1x rfl ?_
   refine y4y rfl rfl rfl ?_
   refine x2x rfl ?_
   exact ⟨i + 1, ⟨⟨by omega, a2t k2 he hE⟩, by omega⟩, [], (Cov.cons' (t := 14) rfl (by rw [u9u (by omega) (by omega)]; rfl) Cov.nil), (x4x 1 rfl (x4x 2 rfl (x4x 3 rfl (x4x 4 rfl (x4x 5 rfl (x4x 6 rfl (x4x 12 rfl (x4x 13 rfl Cov.nil)))))))), HE.nil, (x5x 0 rfl (x5x 1 rfl (x5x 2 rfl (x5x 3 rfl (x5x 4 rfl (x5x 5 rfl (x5x 6 rfl (x5x 7 rfl (x5x 8 rfl (x5x 9 rfl (x5x 10 rfl (x5x 11 rfl HE.nil)))))))))))), rfl⟩
  try simp at hg16
  refine x1x rfl ?_
  refine y7y rfl rfl ?_
  refine x1x rfl ?_
  refine y7y rfl rfl ?_
  refine u0u rfl rfl u4u rfl z3z rfl he ?_
  refine y7y rfl rfl ?_
  refine x0x rfl z3z rfl rfl y9y rfl rfl ?_
  refine y7y rfl rfl ?_
  refine z7z rfl y9y rfl ?_
  refine y7y rfl rfl ?_
  refine z1z rfl rfl rfl (a5u ..) ?_
  refine y7y rfl rfl ?_
  refine x1x rfl ?_
  refine y7y rfl rfl ?_
  refine y4y rfl rfl rfl ?_
  refine y7y rfl rfl ?_
  refine z0z rfl rfl ?_
  refine y5y rfl rfl ?_
  refine ⟨by kernel_rfl, ?_⟩
  refine y0y rfl (fun hc17 => ?_) (fun hc17 => ?_)
  rotate_left
  ·try simp at hc17
   have hE : s0s e.to = n.id ∧ (e.from' = -1 ∨ s0s e.from' = f) := by exact ⟨e1, .inr (by exact hc17)⟩
   refine y1y ?_
   refine hK14 _ _ ?_
   clear hK14 K14
   refine y2y x9x (by rfl) ?_
   refine x1x rfl ?_
   refine y4y rfl rfl rfl ?_
   refine x2x rfl ?_
   exact ⟨i + 1, ⟨⟨by omega, a2t k2 he hE⟩, by omega⟩, [], (Cov.cons' (t := 14) rfl (by rw [u9u (by omega) (by omega)]; rfl) Cov.nil), (x4x 1 rfl (x4x 2 rfl (x4x 3 rfl (x4x 4 rfl (x4x 5 rfl (x4x 6 rfl (x4x 12 rfl (x4x 13 rfl Cov.nil)))))))), HE.nil, (x5x 0 rfl (x5x 1 rfl (x5x 2 rfl (x5x 3 rfl (x5x 4 rfl (x5x 5 rfl (x5x 6 rfl (x5x 7 rfl (x5x 8 rfl (x5x 9 rfl (x5x 10 rfl (x5x 11 rfl HE.nil)))))))))))), rfl⟩
  try simp at hc17
  have fE : ¬ (s0s e.to = n.id ∧ (e.from' = -1 ∨ s0s e.from' = f)) := by (rintro ⟨q1, q2 | q2⟩ <;> omega)
  have fU : ¬ a0h n f inc ver g es := fun q => fE (q.2.2.2.2.2.2.2.2 e (List.mem_of_getElem? he))
  refine x6x x9x (by rfl) ?_
  refine y8y rfl z6z rfl rfl rfl ?_
  refine u2u rfl rfl z6z rfl rfl rfl rfl ?_
  refine y3y ⟨.inr rfl, ?_⟩
  clear hK14 K14 hK11 K11
  (rw [b1f fK fU]; exact ⟨_, _, rfl, b8d (n := n) rfl rfl rfl⟩)
 try simp at hc13
 have hall := a5m k2 (by omega)
 have fH : a0h n f inc ver g es := ⟨fUp, by omega, by omega, f4, by omega, by omega, by omega, fv3, fun e he => by obtain ⟨i, hi⟩ := List.getElem?_of_mem he; exact hall i e hi⟩
 obtain ⟨k, rfl⟩ : ∃ k : Nat, f = (k : Int) := ⟨f.toNat, by have := fH.2.2.1; omega⟩
 have hk3 : k < 3 := by have := fH.2.2.1; omega
 obtain ⟨kn, hkn⟩ : ∃ kn, n.known[k]? = some kn := w5w (by omega)
 obtain ⟨v, hv⟩ : ∃ v, n.views[k]? = some v := w5w (by omega)
 have hes : es.length ≤ 100 := by have := (a2l fH.2.2.2.2.2.2.2.1).1; omega
 obtain ⟨M, hM⟩ : ∃ M, M = b3u n k inc ver g es := ⟨_, rfl⟩
 have hv9 : n.version ≤ 9998 := by have := fH.2.1; omega
 have hv0 := fS.1.2.2.2.2.1.1
 refine v0v ?_
 refine hK11 _ _ ?_
 clear hK12 K12 hK11 K11
 refine a8q (ι := Unit) (fun _i γ2 => []) (fun _i γ2 => [(8, ((0 + 1), .row 3 1 ((n.known.set k (max kn g)).map a2h)))]) (fun _i => True) (x4x 1 rfl (x4x 2 rfl (x4x 3 rfl (x4x 5 rfl (x4x 6 rfl (x4x 12 rfl (x4x 13 rfl Cov.nil))))))) (x5x 0 rfl (x5x 1 rfl (x5x 2 rfl (x5x 3 rfl (x5x 4 rfl (x5x 5 rfl (x5x 6 rfl (x5x 7 rfl (x5x 9 rfl (x5x 10 rfl (x5x 11 rfl HE.nil))))))))))) ?_ fun _i γ2 hi => ?_
 ·refine x6x x9x (by rfl) ?_
  refine x1x rfl ?_
  refine x0x rfl z6z rfl rfl p4p rfl rfl ?_
  refine x3x rfl p4p rfl rfl ?_
  refine x1x rfl ?_
  refine q6q (j := k) rfl rfl p4p rfl y9y rfl rfl (q0q hkn) ?_
  refine a3u rfl y9y rfl hkn rfl ?_
  refine y4y rfl rfl rfl ?_
  refine y0y rfl (fun hc20 => ?_) (fun hc20 => ?_)
  rotate_left
  ·try simp at hc20
   have hmx : max kn g = kn := by omega
   refine y1y ?_
   exact ⟨(), trivial, [], Cov.nil, (x4x 1 rfl (x4x 2 rfl (x4x 3 rfl (x4x 5 rfl (x4x 6 rfl (x4x 12 rfl (x4x 13 rfl Cov.nil))))))), (HE.row rfl (by rw [hmx, d4b hkn]) HE.nil), (x5x 0 rfl (x5x 1 rfl (x5x 2 rfl (x5x 3 rfl (x5x 4 rfl (x5x 5 rfl (x5x 6 rfl (x5x 7 rfl (x5x 9 rfl (x5x 10 rfl (x5x 11 rfl HE.nil))))))))))), rfl⟩
  try simp at hc20
  have hmx : max kn g = g := by omega
  refine y2y x9x (by rfl) ?_
  refine x0x rfl z6z rfl rfl p4p rfl rfl ?_
  refine x3x rfl p4p rfl rfl ?_
  refine x1x rfl ?_
  refine x1x rfl ?_
  refine q6q (j := k) rfl rfl p4p rfl y9y rfl rfl (q0q hkn) ?_
  refine b4t (el' := g) rfl rfl y9y rfl rfl rfl hkn rfl (by omega) (.val rfl rfl .nil) rfl rfl ?_
  exact ⟨(), trivial, [], Cov.nil, (x4x 1 rfl (x4x 2 rfl (x4x 3 rfl (x4x 5 rfl (x4x 6 rfl (x4x 12 rfl (x4x 13 rfl Cov.nil))))))), (HE.row rfl (by (rw [hmx]; done)) HE.nil), (x5x 0 rfl (x5x 1 rfl (x5x 2 rfl (x5x 3 rfl (x5x 4 rfl (x5x 5 rfl (x5x 6 rfl (x5x 7 rfl (x5x 9 rfl (x5x 10 rfl (x5x 11 rfl HE.nil))))))))))), rfl⟩
 ·try dsimp only [List.cons_append, List.nil_append]
  refine x6x x9x (by rfl) ?_
  refine x0x rfl z6z rfl rfl p1p rfl rfl ?_
  refine x3x rfl p1p rfl rfl ?_
  refine x1x rfl ?_
  refine u0u rfl rfl p1p rfl v6v rfl hv ?_
  refine z5z rfl v6v rfl rfl ?_
  refine v3v (id := 3) v6v a3s rfl ?_
  refine u2u rfl rfl v6v rfl rfl rfl rfl ?_
  refine a8q (ι := Unit) (fun _i γ3 => []) (fun _i γ3 => [(2, ((0 + 1), .box 28 [pI M.id, .pv (.bool M.up), pI M.inc, pI M.g, .ref 6 (0 + 1), r7r true M.kept, a1j true M.outs, pI M.led, pI M.version, .ref 7 (0 + 1), .ref 8 (0 + 1), pI M.round, pI M.low])), (6, ((0 + 1), .row 65 5 ((M.lanes).map (a0v true)))), (7, ((0 + 1), .row 141 3 ((M.views).map (a1n true)))), (8, ((0 + 1), .row 3 1 (M.known.map a2h))), (4, ((γ3 4), .dead)), (5, ((γ3 5), .dead))]) (fun _i => True) (x4x 6 rfl (x4x 12 rfl (x4x 13 rfl Cov.nil))) (x5x 0 rfl (x5x 1 rfl (x5x 3 rfl (x5x 9 rfl (x5x 10 rfl (x5x 11 rfl HE.nil)))))) ?_ fun _i γ3 hi => ?_
  ·refine x6x x9x (by rfl) ?_
   refine x1x rfl ?_
   refine x0x rfl v6v rfl rfl y9y rfl rfl ?_
   refine x3x rfl y9y rfl rfl ?_
   refine y4y rfl rfl rfl ?_
   refine x1x rfl ?_
   refine a0b rfl rfl (fun hg21 => ?_) (fun hg21 => ?_)
   rotate_left
   ·try simp at hg21
    refine x8x rfl rfl ?_
    refine x8x rfl rfl ?_
    refine x8x rfl rfl ?_
    refine x8x rfl rfl ?_
    refine p0p rfl rfl ?_
    refine p0p rfl rfl ?_
    refine p0p rfl rfl ?_
    refine p0p rfl rfl ?_
    refine x8x rfl rfl ?_
    refine z0z rfl rfl ?_
    refine y0y rfl (fun hc27 => ?_) (fun hc27 => ?_)
    rotate_left
    ·simp at hc27
    try simp at hc27
    have hL : b4z v inc ver := by exact .inl (by omega)
    refine x6x x9x (by rfl) ?_
    refine x0x rfl v6v rfl rfl u4u rfl rfl ?_
    refine x3x rfl u4u rfl rfl ?_
    refine x1x rfl ?_
    refine x0x rfl z6z rfl rfl y9y rfl rfl ?_
    refine x3x rfl y9y rfl rfl ?_
    refine z1z rfl rfl rfl (a9i c v.events es n.g) ?_
    refine x2x rfl ?_
    refine x7x fun K28 hK28 => ?_
    refine x6x x9x (by rfl) ?_
    refine x1x rfl ?_
    refine x0x rfl z6z rfl rfl y9y rfl rfl ?_
    refine x3x rfl y9y rfl rfl ?_
    refine y4y rfl rfl rfl ?_
    refine y0y rfl (fun hc29 => ?_) (fun hc29 => ?_)
    rotate_left
    ·try simp at hc29
     have hlow : n.low = M.low := by rw [hM, s8s hv hkn hL]; show _ = chg n.g v.events (chg n.g es n.low v.events) es; rw [b6i n.g v.events es (m := n.low) (by have := fS.1.2.2.2.2.2.2; omega)]; omega
     refine y1y ?_
     refine hK28 _ _ ?_
     clear hK28 K28
     refine r8r x9x r6r (by rfl) ?_
     refine x0x rfl z6z rfl rfl p1p rfl rfl ?_
     refine x3x rfl p1p rfl rfl ?_
     refine x1x rfl ?_
     refine x1x rfl ?_
     refine x1x rfl ?_
     refine s3s (id := 4) u4u rfl z3z rfl ?_
     refine x1x rfl ?_
     refine a8r x9x (zs := es.map v9v) rfl rfl u4u rfl z3z rfl rfl rfl (by exact a0m (fun _ => rfl) _) rfl (by simp only [List.length_map, T76]; omega) (Le.ow_map _ (fun _ => rfl) (fun _ => rfl)) ?_
     refine a0c v6v rfl a3s rfl (by simp only [pI, y9y, T3, u4u, T24, a2w, r2r, AV.okc, AV.one, Value.oneCell', List.map_cons, List.map_nil, List.getElem?_cons_zero, List.getElem?_cons_succ, List.take_succ_cons, List.take_zero, List.drop_succ_cons, List.drop_zero, List.cons_append, List.nil_append, List.length_cons, List.length_nil, if_true, and_self, Nat.reduceAdd, Nat.reduceLeDiff]; rfl) ?_
     refine q6q (j := k) rfl rfl p1p rfl v6v rfl rfl (q0q hv) ?_
     refine a0n (el' := ⟨inc, ver, es⟩) rfl rfl v6v rfl rfl rfl hv rfl (a3t rfl) rfl rfl ?_
     refine ⟨by kernel_rfl, ?_⟩
     exact ⟨(), trivial, [0, 0, 0, 0, _, _], Cov.nil, (x4x 6 rfl (x4x 12 rfl (x4x 13 rfl Cov.nil))), (HE.box rfl (by rw [← hlow]; (rw [hM, s8s hv hkn hL]; rfl)) (HE.row rfl (by rw [hM, s8s hv hkn hL]) (HE.row rfl (by rw [hM, s8s hv hkn hL]) (HE.row rfl (by rw [hM, s8s hv hkn hL]) (HE.kill rfl (HE.kill rfl HE.nil)))))), (x5x 0 rfl (x5x 1 rfl (x5x 3 rfl (x5x 9 rfl (x5x 10 rfl (x5x 11 rfl HE.nil)))))), rfl⟩
    try simp at hc29
    have hlow : chg n.g v.events (chg n.g es 41 v.events) es = M.low := by rw [hM, s8s hv hkn hL]; show _ = chg n.g v.events (chg n.g es n.low v.events) es; rw [b6i n.g v.events es (m := n.low) (by have := fS.1.2.2.2.2.2.2; omega)]; omega
    refine y2y x9x (by rfl) ?_
    refine x1x rfl ?_
    refine x0x rfl z6z rfl rfl y9y rfl rfl ?_
    refine u8u rfl rfl y9y rfl rfl rfl rfl rfl (by simp only [a0p]; rfl) ?_
    refine hK28 _ _ ?_
    clear hK28 K28
    refine r8r x9x r6r (by rfl) ?_
    refine x0x rfl z6z rfl rfl p1p rfl rfl ?_
    refine x3x rfl p1p rfl rfl ?_
    refine x1x rfl ?_
    refine x1x rfl ?_
    refine x1x rfl ?_
    refine s3s (id := 4) u4u rfl z3z rfl ?_
    refine x1x rfl ?_
    refine a8r x9x (zs := es.map v9v) rfl rfl u4u rfl z3z rfl rfl rfl (by exact a0m (fun _ => rfl) _) rfl (by simp only [List.length_map, T76]; omega) (Le.ow_map _ (fun _ => rfl) (fun _ => rfl)) ?_
    refine a0c v6v rfl a3s rfl (by simp only [pI, y9y, T3, u4u, T24, a2w, r2r, AV.okc, AV.one, Value.oneCell', List.map_cons, List.map_nil, List.getElem?_cons_zero, List.getElem?_cons_succ, List.take_succ_cons, List.take_zero, List.drop_succ_cons, List.drop_zero, List.cons_append, List.nil_append, List.length_cons, List.length_nil, if_true, and_self, Nat.reduceAdd, Nat.reduceLeDiff]; rfl) ?_
    refine q6q (j := k) rfl rfl p1p rfl v6v rfl rfl (q0q hv) ?_
    refine a0n (el' := ⟨inc, ver, es⟩) rfl rfl v6v rfl rfl rfl hv rfl (a3t rfl) rfl rfl ?_
    refine ⟨by kernel_rfl, ?_⟩
    exact ⟨(), trivial, [0, 0, 0, 0, _, _], Cov.nil, (x4x 6 rfl (x4x 12 rfl (x4x 13 rfl Cov.nil))), (HE.box rfl (by rw [← hlow]; (rw [hM, s8s hv hkn hL]; rfl)) (HE.row rfl (by rw [hM, s8s hv hkn hL]) (HE.row rfl (by rw [hM, s8s hv hkn hL]) (HE.row rfl (by rw [hM, s8s hv hkn hL]) (HE.kill rfl (HE.kill rfl HE.nil)))))), (x5x 0 rfl (x5x 1 rfl (x5x 3 rfl (x5x 9 rfl (x5x 10 rfl (x5x 11 rfl HE.nil)))))), rfl⟩
   try simp at hg21
   refine x1x rfl ?_
   refine y7y rfl rfl ?_
   refine x0x rfl v6v rfl rfl y9y rfl rfl ?_
   refine y7y rfl rfl ?_
   refine x3x rfl y9y rfl rfl ?_
   refine y7y rfl rfl ?_
   refine y4y rfl rfl rfl ?_
   refine y7y rfl rfl ?_
   refine x1x rfl ?_
   refine a0b rfl rfl (fun hg22 => ?_) (fun hg22 => ?_)
   rotate_left
   ·try simp at hg22
    refine x8x rfl rfl ?_
    refine x8x rfl rfl ?_
    refine x8x rfl rfl ?_
    refine y7y rfl rfl ?_
    refine y5y rfl rfl ?_
    refine y5y rfl rfl ?_
    refine y0y rfl (fun hc26 => ?_) (fun hc26 => ?_)
    ·simp at hc26
    try simp at hc26
    have hL : ¬ b4z v inc ver := by rintro (q | ⟨q1, q2⟩) <;> omega
    have hlow : n.low = M.low := by rw [hM, a1m hv hkn hL]
    refine y1y ?_
    exact ⟨(), trivial, [0, 0, 0, 0, _, _], Cov.nil, (x4x 6 rfl (x4x 12 rfl (x4x 13 rfl Cov.nil))), (HE.box rfl (by rw [← hlow]; (rw [hM, a1m hv hkn hL]; rfl)) (HE.row rfl (by rw [hM, a1m hv hkn hL]) (HE.row rfl (by rw [hM, a1m hv hkn hL]) (HE.row rfl (by rw [hM, a1m hv hkn hL]) (HE.kill rfl (HE.kill rfl HE.nil)))))), (x5x 0 rfl (x5x 1 rfl (x5x 3 rfl (x5x 9 rfl (x5x 10 rfl (x5x 11 rfl HE.nil)))))), rfl⟩
   try simp at hg22
   refine x1x rfl ?_
   refine y7y rfl rfl ?_
   refine x0x rfl v6v rfl rfl y9y rfl rfl ?_
   refine y7y rfl rfl ?_
   refine x3x rfl y9y rfl rfl ?_
   refine y7y rfl rfl ?_
   refine y4y rfl rfl rfl ?_
   refine y7y rfl rfl ?_
   refine z0z rfl rfl ?_
   refine y5y rfl rfl ?_
   refine y0y rfl (fun hc23 => ?_) (fun hc23 => ?_)
   rotate_left
   ·try simp at hc23
    have hL : ¬ b4z v inc ver := by rintro (q | ⟨q1, q2⟩) <;> omega
    have hlow : n.low = M.low := by rw [hM, a1m hv hkn hL]
    refine y1y ?_
    exact ⟨(), trivial, [0, 0, 0, 0, _, _], Cov.nil, (x4x 6 rfl (x4x 12 rfl (x4x 13 rfl Cov.nil))), (HE.box rfl (by rw [← hlow]; (rw [hM, a1m hv hkn hL]; rfl)) (HE.row rfl (by rw [hM, a1m hv hkn hL]) (HE.row rfl (by rw [hM, a1m hv hkn hL]) (HE.row rfl (by rw [hM, a1m hv hkn hL]) (HE.kill rfl (HE.kill rfl HE.nil)))))), (x5x 0 rfl (x5x 1 rfl (x5x 3 rfl (x5x 9 rfl (x5x 10 rfl (x5x 11 rfl HE.nil)))))), rfl⟩
   try simp at hc23
   have hL : b4z v inc ver := by exact .inr ⟨by omega, by omega⟩
   refine x6x x9x (by rfl) ?_
   refine x0x rfl v6v rfl rfl u4u rfl rfl ?_
   refine x3x rfl u4u rfl rfl ?_
   refine x1x rfl ?_
   refine x0x rfl z6z rfl rfl y9y rfl rfl ?_
   refine x3x rfl y9y rfl rfl ?_
   refine z1z rfl rfl rfl (a9i c v.events es n.g) ?_
   refine x2x rfl ?_
   refine x7x fun K24 hK24 => ?_
   refine x6x x9x (by rfl) ?_
   refine x1x rfl ?_
   refine x0x rfl z6z rfl rfl y9y rfl rfl ?_
   refine x3x rfl y9y rfl rfl ?_
   refine y4y rfl rfl rfl ?_
   refine y0y rfl (fun hc25 => ?_) (fun hc25 => ?_)
   rotate_left
   ·try simp at hc25
    have hlow : n.low = M.low := by rw [hM, s8s hv hkn hL]; show _ = chg n.g v.events (chg n.g es n.low v.events) es; rw [b6i n.g v.events es (m := n.low) (by have := fS.1.2.2.2.2.2.2; omega)]; omega
    refine y1y ?_
    refine hK24 _ _ ?_
    clear hK24 K24
    refine r8r x9x r6r (by rfl) ?_
    refine x0x rfl z6z rfl rfl p1p rfl rfl ?_
    refine x3x rfl p1p rfl rfl ?_
    refine x1x rfl ?_
    refine x1x rfl ?_
    refine x1x rfl ?_
    refine s3s (id := 4) u4u rfl z3z rfl ?_
    refine x1x rfl ?_
    refine a8r x9x (zs := es.map v9v) rfl rfl u4u rfl z3z rfl rfl rfl (by exact a0m (fun _ => rfl) _) rfl (by simp only [List.length_map, T76]; omega) (Le.ow_map _ (fun _ => rfl) (fun _ => rfl)) ?_
    refine a0c v6v rfl a3s rfl (by simp only [pI, y9y, T3, u4u, T24, a2w, r2r, AV.okc, AV.one, Value.oneCell', List.map_cons, List.map_nil, List.getElem?_cons_zero, List.getElem?_cons_succ, List.take_succ_cons, List.take_zero, List.drop_succ_cons, List.drop_zero, List.cons_append, List.nil_append, List.length_cons, List.length_nil, if_true, and_self, Nat.reduceAdd, Nat.reduceLeDiff]; rfl) ?_
    refine q6q (j := k) rfl rfl p1p rfl v6v rfl rfl (q0q hv) ?_
    refine a0n (el' := ⟨inc, ver, es⟩) rfl rfl v6v rfl rfl rfl hv rfl (a3t rfl) rfl rfl ?_
    refine ⟨by kernel_rfl, ?_⟩
    exact ⟨(), trivial, [0, 0, 0, 0, _, _], Cov.nil, (x4x 6 rfl (x4x 12 rfl (x4x 13 rfl Cov.nil))), (HE.box rfl (by rw [← hlow]; (rw [hM, s8s hv hkn hL]; rfl)) (HE.row rfl (by rw [hM, s8s hv hkn hL]) (HE.row rfl (by rw [hM, s8s hv hkn hL]) (HE.row rfl (by rw [hM, s8s hv hkn hL]) (HE.kill rfl (HE.kill rfl HE.nil)))))), (x5x 0 rfl (x5x 1 rfl (x5x 3 rfl (x5x 9 rfl (x5x 10 rfl (x5x 11 rfl HE.nil)))))), rfl⟩
   try simp at hc25
   have hlow : chg n.g v.events (chg n.g es 41 v.events) es = M.low := by rw [hM, s8s hv hkn hL]; show _ = chg n.g v.events (chg n.g es n.low v.events) es; rw [b6i n.g v.events es (m := n.low) (by have := fS.1.2.2.2.2.2.2; omega)]; omega
   refine y2y x9x (by rfl) ?_
   refine x1x rfl ?_
   refine x0x rfl z6z rfl rfl y9y rfl rfl ?_
   refine u8u rfl rfl y9y rfl rfl rfl rfl rfl (by simp only [a0p]; rfl) ?_
   refine hK24 _ _ ?_
   clear hK24 K24
   refine r8r x9x r6r (by rfl) ?_
   refine x0x rfl z6z rfl rfl p1p rfl rfl ?_
   refine x3x rfl p1p rfl rfl ?_
   refine x1x rfl ?_
   refine x1x rfl ?_
   refine x1x rfl ?_
   refine s3s (id := 4) u4u rfl z3z rfl ?_
   refine x1x rfl ?_
   refine a8r x9x (zs := es.map v9v) rfl rfl u4u rfl z3z rfl rfl rfl (by exact a0m (fun _ => rfl) _) rfl (by simp only [List.length_map, T76]; omega) (Le.ow_map _ (fun _ => rfl) (fun _ => rfl)) ?_
   refine a0c v6v rfl a3s rfl (by simp only [pI, y9y, T3, u4u, T24, a2w, r2r, AV.okc, AV.one, Value.oneCell', List.map_cons, List.map_nil, List.getElem?_cons_zero, List.getElem?_cons_succ, List.take_succ_cons, List.take_zero, List.drop_succ_cons, List.drop_zero, List.cons_append, List.nil_append, List.length_cons, List.length_nil, if_true, and_self, Nat.reduceAdd, Nat.reduceLeDiff]; rfl) ?_
   refine q6q (j := k) rfl rfl p1p rfl v6v rfl rfl (q0q hv) ?_
   refine a0n (el' := ⟨inc, ver, es⟩) rfl rfl v6v rfl rfl rfl hv rfl (a3t rfl) rfl rfl ?_
   refine ⟨by kernel_rfl, ?_⟩
   exact ⟨(), trivial, [0, 0, 0, 0, _, _], Cov.nil, (x4x 6 rfl (x4x 12 rfl (x4x 13 rfl Cov.nil))), (HE.box rfl (by rw [← hlow]; (rw [hM, s8s hv hkn hL]; rfl)) (HE.row rfl (by rw [hM, s8s hv hkn hL]) (HE.row rfl (by rw [hM, s8s hv hkn hL]) (HE.row rfl (by rw [hM, s8s hv hkn hL]) (HE.kill rfl (HE.kill rfl HE.nil)))))), (x5x 0 rfl (x5x 1 rfl (x5x 3 rfl (x5x 9 rfl (x5x 10 rfl (x5x 11 rfl HE.nil)))))), rfl⟩
  ·try dsimp only [List.cons_append, List.nil_append]
   obtain ⟨w1, w2, w3⟩ := c7a n k inc ver g es
   rw [← hM] at w1 w2 w3
   have hwM : wk M := by rw [hM]; exact c6z (d3t fS) hes
   have hpcM : M.lanes.length = (a1d M.id 4).length := by rw [w1, w3]; exact fS.2.2.2.2.1
   have hwA : wk (nl M (q7q M M.lanes)) := c1n _ (Nat.le_refl _) hwM
   have hLA : (q7q M M.lanes).length ≤ 4 := hwA.1
   refine q5q x9x r6r (by rfl) ?_
   refine y8y rfl z6z rfl rfl rfl ?_
   refine y8y rfl z6z rfl rfl rfl ?_
   refine v2v [6, 7, 8] [_, _, _] (b8n M hwM) rfl rfl rfl (by decide) rfl rfl (by repeat (first | exact InH.nil | refine InH.cons rfl ?_)) (by (simp only [pI, z8z, z9z, p8p, gl, nx, p6p, Nat.beq]; rfl)) (by (simp only [pI, z8z, z9z, p8p, gl, nx, p6p, Nat.beq]; rfl)) ?_
   refine v2v [6, 7, 8] [_, _, _] (b6c c n (nl M (q7q M M.lanes)) (d3t fS) hwA w1.symm ⟨by omega, by omega⟩) rfl rfl rfl (by decide) rfl rfl (by repeat (first | exact InH.nil | refine InH.cons rfl ?_)) (by (simp only [pI, z8z, z9z, p8p, gl, nx, p6p, Nat.beq]; rfl)) (by (simp only [pI, z8z, z9z, p8p, gl, nx, p6p, Nat.beq]; rfl)) ?_
   refine u2u rfl rfl z6z rfl rfl rfl rfl ?_
   refine ⟨by kernel_rfl, ?_⟩
   refine x7x fun K30 hK30 => ?_
   refine c5g (b := c1q true (b8c n M).lanes) 2 4 rfl rfl rfl (.ref rfl (Le.ow_map _ (fun _ => rfl) (fun _ => rfl)) .nil) rfl rfl rfl rfl ?_
   refine c5g (b := c1r true (b8c n M).views) 2 9 rfl rfl rfl (.ref rfl (Le.ow_map _ (fun _ => rfl) (fun _ => rfl)) .nil) rfl rfl rfl rfl ?_
   refine c5g (b := a4r true (b8c n M).known) 2 10 rfl rfl rfl (.ref rfl (Le.ow_map _ (fun _ => rfl) (fun _ => rfl)) .nil) rfl rfl rfl rfl ?_
   refine x6x x9x (by rfl) ?_
   refine y8y rfl z6z rfl rfl rfl ?_
   refine z1z rfl rfl rfl (b4j true (b8c n M)) ?_
   refine w6w rfl ?_
   refine y0y rfl (fun hc31 => ?_) (fun hc31 => ?_)
   ·try simp at hc31
    have fX2 : ¬ a1r (b8c n M) := a5g (by simpa using hc31)
    refine x6x x9x (by rfl) ?_
    refine y8y rfl z6z rfl rfl rfl ?_
    refine v2v [9, 10, 11] [_, _, _] (a5e c n fb) rfl rfl rfl (by decide) rfl rfl (by repeat (first | exact InH.nil | refine InH.cons rfl ?_)) (by (simp only [pI, z8z, z9z, p8p, gl, nx, p6p, Nat.beq]; rfl)) (by (simp only [pI, z8z, z9z, p8p, gl, nx, p6p, Nat.beq]; rfl)) ?_
    refine u2u rfl rfl z6z rfl rfl rfl rfl ?_
    refine y3y ⟨.inr rfl, ?_⟩
    clear hK30 K30
    (rw [d1p fK fH, ← hM, c4d fX2]; exact ⟨_, _, rfl, b8d (n := n) rfl rfl rfl⟩)
   try simp at hc31
   have fK2 : a1r (b8c n M) := b1e.1 (by simpa using hc31)
   have fb2 := d8o fK2.1
   refine y1y ?_
   refine hK30 _ _ ?_
   clear hK30 K30
   refine x6x x9x (by rfl) ?_
   refine y8y rfl z6z rfl rfl rfl ?_
   refine v2v [9, 10, 11] [_, _, _] (a5e true (b8c n M) fb2) rfl rfl rfl (by decide) rfl rfl (by repeat (first | exact InH.nil | refine InH.cons rfl ?_)) (by (simp only [pI, z8z, z9z, p8p, gl, nx, p6p, Nat.beq]; rfl)) (by (simp only [pI, z8z, z9z, p8p, gl, nx, p6p, Nat.beq]; rfl)) ?_
   refine u2u rfl rfl z6z rfl rfl rfl rfl ?_
   refine y3y ⟨.inr rfl, ?_⟩
   (rw [d1p fK fH, ← hM, c4b fK2]; exact ⟨_, _, rfl, b8d (n := b8c n M) rfl rfl rfl⟩)
end
section
set_option maxHeartbeats 4000000 in
theorem a9p (n : Nd) (f : Int) (inc : Int) (ver : Int) (g : Int) (es : List Ev) : a0z Tryz.prog 10 [.agg (a1i true n), .pv (.int .i64 f), .pv (.int .i64 inc), .pv (.int .i64 ver), .pv (.int .i64 g), r7r true es] (.pv (.bool (true))) := by
 refine z4z x9x (fn := Tryz.f10) (by kernel_rfl) (by kernel_rfl) rfl (outs := [.pv (.bool (true))]) (by rfl) (v7v rfl) 39 ?_
 refine x6x x9x (by rfl) ?_
 refine v4v (id := 0) rfl rfl rfl ?_
 refine x2x rfl ?_
 refine x6x x9x (by rfl) ?_
 refine x2x rfl ?_
 refine x6x x9x (by rfl) ?_
 refine y8y rfl a4u rfl rfl rfl ?_
 refine x1x rfl ?_
 refine z1z rfl rfl rfl (c2b true n 1048576 (by omega)) ?_
 refine x2x rfl ?_
 refine x7x fun K1 hK1 => ?_
 refine x6x x9x (by rfl) ?_
 refine x1x rfl ?_
 refine y4y rfl rfl rfl ?_
 refine y0y rfl (fun hc2 => ?_) (fun hc2 => ?_)
 ·try simp at hc2
  refine x6x x9x (by rfl) ?_
  refine x2x rfl ?_
  refine y3y ⟨.inr rfl, ?_⟩
  clear hK1 K1
  exact z2z rfl rfl rfl
 try simp at hc2
 have hs26 : cNd n ≤ 1048576 := b3p (by omega)
 have hl_n : cNd n ≤ 1048576 := by omega
 rw [a2k hs26]
 refine y1y ?_
 refine hK1 _ _ ?_
 clear hK1 K1
 refine x6x x9x (by rfl) ?_
 refine x1x rfl ?_
 refine x1x rfl ?_
 refine z1z rfl rfl rfl (a4b true es (1048576 - cNd n) (by omega)) ?_
 refine x2x rfl ?_
 refine x7x fun K3 hK3 => ?_
 refine x6x x9x (by rfl) ?_
 refine x1x rfl ?_
 refine y4y rfl rfl rfl ?_
 refine y0y rfl (fun hc4 => ?_) (fun hc4 => ?_)
 ·try simp at hc4
  refine x6x x9x (by rfl) ?_
  refine x2x rfl ?_
  refine y3y ⟨.inr rfl, ?_⟩
  clear hK3 K3
  exact z2z rfl rfl rfl
 try simp at hc4
 have hs31 : List.length es ≤ (1048576 - cNd n) := b3p (by omega)
 have hl_es : List.length es ≤ 1048576 := by omega
 have := d4y n
 have := d8p es
 have hzA : 1 + zNd (n) + szs zEv (es) ≤ 900000000 := by omega
 have hzR : 1 + zNd ((p3p n f inc ver g es)) ≤ 900000000 := by (have := d4y (p3p n f inc ver g es); have := c8i n f inc ver g es; omega)
 refine y1y ?_
 refine hK3 _ _ ?_
 clear hK3 K3
 refine x6x x9x (by rfl) ?_
 refine y8y rfl a4u rfl rfl rfl ?_
 refine v2v [5, 6, 7, 8, 9] [_, _, _, _, _] (a5q true n hl_n) rfl rfl rfl (by decide) rfl rfl (by repeat (first | exact InH.nil | refine InH.cons rfl ?_)) (by (simp only [pI, z8z, z9z, p8p, gl, nx, p6p, Nat.beq]; rfl)) (by (simp only [pI, z8z, z9z, p8p, gl, nx, p6p, Nat.beq]; rfl)) ?_
 refine x1x rfl ?_
 refine x1x rfl ?_
 refine x1x rfl ?_
 refine x1x rfl ?_
 refine x1x rfl ?_
 refine v2v [10] [_] (a1b true es hl_es) rfl rfl rfl (by decide) rfl rfl (by repeat (first | exact InH.nil | refine InH.cons rfl ?_)) (by (simp only [pI, z8z, z9z, p8p, gl, nx, p6p, Nat.beq]; rfl)) (by (simp only [pI, z8z, z9z, p8p, gl, nx, p6p, Nat.beq]; rfl)) ?_
 refine a6i rfl rfl rfl (by exact b1g rfl rfl rfl rfl rfl (.cl rfl (.cl rfl (.cl rfl (.cl rfl (b8e rfl (.nil))))))) (b8o false n f inc ver g es) (by exact d3z _) ?_
 refine v3v (id := 1) z6z a4v rfl ?_
 refine u2u rfl rfl z6z rfl rfl rfl rfl ?_
 refine x6x x9x (by rfl) ?_
 refine y8y rfl a4u rfl rfl rfl ?_
 refine v2v [11, 12, 13, 14, 15] [_, _, _, _, _] (a5q true n hl_n) rfl rfl rfl (by decide) rfl rfl (by repeat (first | exact InH.nil | refine InH.cons rfl ?_)) (by (simp only [pI, z8z, z9z, p8p, gl, nx, p6p, Nat.beq]; rfl)) (by (simp only [pI, z8z, z9z, p8p, gl, nx, p6p, Nat.beq]; rfl)) ?_
 refine v3v (id := 2) z6z a4v rfl ?_
 refine u2u rfl rfl z6z rfl rfl rfl rfl ?_
 refine x6x x9x (by rfl) ?_
 refine x1x rfl ?_
 refine v2v [16] [_] (a1b true es hl_es) rfl rfl rfl (by decide) rfl rfl (by repeat (first | exact InH.nil | refine InH.cons rfl ?_)) (by (simp only [pI, z8z, z9z, p8p, gl, nx, p6p, Nat.beq]; rfl)) (by (simp only [pI, z8z, z9z, p8p, gl, nx, p6p, Nat.beq]; rfl)) ?_
 refine x2x rfl ?_
 refine x6x x9x (by rfl) ?_
 refine y8y rfl z6z rfl rfl rfl ?_
 refine x1x rfl ?_
 refine x1x rfl ?_
 refine x1x rfl ?_
 refine x1x rfl ?_
 refine x1x rfl ?_
 refine c0y [17, 18, 19, 20, 21] [_, _, _, _, _] (b0j false n f inc ver g es) rfl rfl rfl (LendM.base (b1g rfl rfl rfl rfl rfl (.cl rfl (.cl rfl (.cl rfl (.cl rfl (b8e rfl (.nil)))))))) rfl (by decide) rfl rfl (by repeat (first | exact InH.nil | refine InH.cons rfl ?_)) (by (simp only [pI, z8z, z9z, p8p, gl, nx, p6p, Nat.beq]; rfl)) (by (simp only [pI, z8z, z9z, p8p, gl, nx, p6p, Nat.beq]; rfl)) rfl rfl (d0p rfl) (by repeat (first | exact StrH.nil | refine StrH.dead ?_)) (by exact d7e (.nil)) ?_
 refine v3v (id := 3) z6z a4v rfl ?_
 refine u2u rfl rfl z6z rfl rfl rfl rfl ?_
 refine x7x fun K5 hK5 => ?_
 refine x6x x9x (by rfl) ?_
 refine y8y rfl z6z rfl rfl rfl ?_
 refine y8y rfl z6z rfl rfl rfl ?_
 refine a6i rfl rfl rfl (by exact b1g rfl rfl rfl rfl rfl (d6y rfl rfl .nil)) (a5p false true ((p3p n f inc ver g es)) ((p3p n f inc ver g es))) (by exact .pv _) ?_
 refine w6w rfl ?_
 refine y0y rfl (fun hc6 => ?_) (fun hc6 => ?_)
 ·(simp at hc6; done)
 try simp at hc6
 refine y1y ?_
 refine hK5 _ _ ?_
 clear hK5 K5
 refine x7x fun K7 hK7 => ?_
 refine q5q x9x r6r (by rfl) ?_
 refine y8y rfl z6z rfl rfl rfl ?_
 refine y8y rfl a4u rfl rfl rfl ?_
 refine v2v [22, 23, 24, 25, 26] [_, _, _, _, _] (a5q true n hl_n) rfl rfl rfl (by decide) rfl rfl (by repeat (first | exact InH.nil | refine InH.cons rfl ?_)) (by (simp only [pI, z8z, z9z, p8p, gl, nx, p6p, Nat.beq]; rfl)) (by (simp only [pI, z8z, z9z, p8p, gl, nx, p6p, Nat.beq]; rfl)) ?_
 refine a6i rfl rfl rfl (by exact b1g rfl rfl rfl rfl rfl (b1g rfl rfl rfl rfl rfl (.nil))) (a5p false false n n) (by exact .pv _) ?_
 refine w6w rfl ?_
 refine ⟨by kernel_rfl, ?_⟩
 refine y0y rfl (fun hc8 => ?_) (fun hc8 => ?_)
 ·(simp at hc8; done)
 try simp at hc8
 refine y1y ?_
 refine hK7 _ _ ?_
 clear hK7 K7
 refine x7x fun K9 hK9 => ?_
 refine x6x x9x (by rfl) ?_
 refine x1x rfl ?_
 refine x1x rfl ?_
 refine v2v [27] [_] (a1b true es hl_es) rfl rfl rfl (by decide) rfl rfl (by repeat (first | exact InH.nil | refine InH.cons rfl ?_)) (by (simp only [pI, z8z, z9z, p8p, gl, nx, p6p, Nat.beq]; rfl)) (by (simp only [pI, z8z, z9z, p8p, gl, nx, p6p, Nat.beq]; rfl)) ?_
 refine a6i rfl rfl rfl (by exact b8e rfl (b8e rfl (.nil))) (a3z false false es es) (by exact .pv _) ?_
 refine w6w rfl ?_
 refine y0y rfl (fun hc10 => ?_) (fun hc10 => ?_)
 ·(simp at hc10; done)
 try simp at hc10
 refine y1y ?_
 refine hK9 _ _ ?_
 clear hK9 K9
 refine x6x x9x (by rfl) ?_
 refine x2x rfl ?_
 refine x6x x9x (by rfl) ?_
 refine y8y rfl z6z rfl rfl rfl ?_
 refine x1x rfl ?_
 refine v2v [11, 12, 13, 14, 15] [_, _, _, _, _] (b0d (n) (1) (by omega)) rfl rfl rfl (by decide) rfl rfl (by repeat (first | exact InH.nil | refine InH.cons rfl ?_)) (by (simp only [pI, z8z, z9z, p8p, gl, nx, p6p, Nat.beq]; rfl)) (by (simp only [pI, z8z, z9z, p8p, gl, nx, p6p, Nat.beq]; rfl)) ?_
 refine x2x rfl ?_
 refine x6x x9x (by rfl) ?_
 refine x1x rfl ?_
 refine x1x rfl ?_
 refine v2v [16] [_] (a2y (es) (1 + zNd (n)) (by omega)) rfl rfl rfl (by decide) rfl rfl (by repeat (first | exact InH.nil | refine InH.cons rfl ?_)) (by (simp only [pI, z8z, z9z, p8p, gl, nx, p6p, Nat.beq]; rfl)) (by (simp only [pI, z8z, z9z, p8p, gl, nx, p6p, Nat.beq]; rfl)) ?_
 refine x2x rfl ?_
 refine x7x fun K11 hK11 => ?_
 refine x6x x9x (by rfl) ?_
 refine x1x rfl ?_
 refine y4y rfl rfl rfl ?_
 refine x1x rfl ?_
 refine a0b rfl rfl (fun hg12 => ?_) (fun hg12 => ?_)
 rotate_left
 ·(simp at hg12; omega)
 try simp at hg12
 refine y8y rfl z6z rfl rfl rfl ?_
 refine y7y rfl rfl ?_
 refine y8y rfl z6z rfl rfl rfl ?_
 refine y7y rfl rfl ?_
 refine a6i rfl rfl rfl (by exact b1g rfl rfl rfl rfl rfl (d6y rfl rfl .nil)) (a5p false true ((p3p n f inc ver g es)) ((p3p n f inc ver g es))) (by exact .pv _) ?_
 refine y7y rfl rfl ?_
 refine w6w rfl ?_
 refine y5y rfl rfl ?_
 refine y0y rfl (fun hc13 => ?_) (fun hc13 => ?_)
 ·(simp at hc13; done)
 try simp at hc13
 refine y1y ?_
 refine hK11 _ _ ?_
 clear hK11 K11
 refine x6x x9x (by rfl) ?_
 refine x2x rfl ?_
 refine x6x x9x (by rfl) ?_
 refine y8y rfl z6z rfl rfl rfl ?_
 refine x1x rfl ?_
 refine v2v [17, 18, 19, 20, 21] [_, _, _, _, _] (b0d ((p3p n f inc ver g es)) (1) (by omega)) rfl rfl rfl (by decide) rfl rfl (by repeat (first | exact InH.nil | refine InH.cons rfl ?_)) (by (simp only [pI, z8z, z9z, p8p, gl, nx, p6p, Nat.beq]; rfl)) (by (simp only [pI, z8z, z9z, p8p, gl, nx, p6p, Nat.beq]; rfl)) ?_
 refine x2x rfl ?_
 refine x6x x9x (by rfl) ?_
 refine x2x rfl ?_
 refine x6x x9x (by rfl) ?_
 refine y8y rfl z6z rfl rfl rfl ?_
 refine x1x rfl ?_
 refine a6i rfl rfl rfl (by exact b1g (n := (kNd (1) ((p3p n f inc ver g es)))) rfl rfl rfl rfl rfl (.cl rfl .nil)) (b0f false ((p3p n f inc ver g es)) (1) (by omega)) (by exact .pv _) ?_
 refine x2x rfl ?_
 refine x7x fun K14 hK14 => ?_
 refine x6x x9x (by rfl) ?_
 refine x1x rfl ?_
 refine y4y rfl rfl rfl ?_
 refine y0y rfl (fun hc15 => ?_) (fun hc15 => ?_)
 ·(simp at hc15; omega)
 try simp at hc15
 refine y1y ?_
 refine hK14 _ _ ?_
 clear hK14 K14
 refine x7x fun K16 hK16 => ?_
 refine x6x x9x (by rfl) ?_
 refine x1x rfl ?_
 refine x1x rfl ?_
 refine y4y rfl rfl rfl ?_
 refine y0y rfl (fun hc17 => ?_) (fun hc17 => ?_)
 ·(simp at hc17; done)
 try simp at hc17
 refine y1y ?_
 refine hK16 _ _ ?_
 clear hK16 K16
 refine x6x x9x (by rfl) ?_
 refine y8y rfl a4u rfl rfl rfl ?_
 refine v2v [28, 29, 30, 31, 32] [_, _, _, _, _] (a5q true n hl_n) rfl rfl rfl (by decide) rfl rfl (by repeat (first | exact InH.nil | refine InH.cons rfl ?_)) (by (simp only [pI, z8z, z9z, p8p, gl, nx, p6p, Nat.beq]; rfl)) (by (simp only [pI, z8z, z9z, p8p, gl, nx, p6p, Nat.beq]; rfl)) ?_
 refine x1x rfl ?_
 refine x1x rfl ?_
 refine x1x rfl ?_
 refine x1x rfl ?_
 refine x1x rfl ?_
 refine v2v [33] [_] (a1b true es hl_es) rfl rfl rfl (by decide) rfl rfl (by repeat (first | exact InH.nil | refine InH.cons rfl ?_)) (by (simp only [pI, z8z, z9z, p8p, gl, nx, p6p, Nat.beq]; rfl)) (by (simp only [pI, z8z, z9z, p8p, gl, nx, p6p, Nat.beq]; rfl)) ?_
 refine c0y [34, 35, 36, 37, 38] [_, _, _, _, _] (b0j false n f inc ver g es) rfl rfl rfl (LendM.base (b1g rfl rfl rfl rfl rfl (.cl rfl (.cl rfl (.cl rfl (.cl rfl (b8e rfl (.nil)))))))) rfl (by decide) rfl rfl (by repeat (first | exact InH.nil | refine InH.cons rfl ?_)) (by (simp only [pI, z8z, z9z, p8p, gl, nx, p6p, Nat.beq]; rfl)) (by (simp only [pI, z8z, z9z, p8p, gl, nx, p6p, Nat.beq]; rfl)) rfl rfl (d0p rfl) (by repeat (first | exact StrH.nil | refine StrH.dead ?_)) (by exact d7e (.nil)) ?_
 refine v3v (id := 4) z6z a4v rfl ?_
 refine u2u rfl rfl z6z rfl rfl rfl rfl ?_
 refine x7x fun K18 hK18 => ?_
 refine x6x x9x (by rfl) ?_
 refine y8y rfl z6z rfl rfl rfl ?_
 refine y8y rfl z6z rfl rfl rfl ?_
 refine a6i rfl rfl rfl (by exact b1g rfl rfl rfl rfl rfl (d6y rfl rfl .nil)) (a5p false true ((p3p n f inc ver g es)) ((p3p n f inc ver g es))) (by exact .pv _) ?_
 refine w6w rfl ?_
 refine y0y rfl (fun hc19 => ?_) (fun hc19 => ?_)
 ·(simp at hc19; done)
 try simp at hc19
 refine y1y ?_
 refine hK18 _ _ ?_
 clear hK18 K18
 refine x6x x9x (by rfl) ?_
 refine x2x rfl ?_
 refine x6x x9x (by rfl) ?_
 refine y8y rfl z6z rfl rfl rfl ?_
 refine x1x rfl ?_
 refine a6i rfl rfl rfl (by exact b1g (n := (kNd (1) ((p3p n f inc ver g es)))) rfl rfl rfl rfl rfl (.cl rfl .nil)) (b0f false ((p3p n f inc ver g es)) (1) (by omega)) (by exact .pv _) ?_
 refine x2x rfl ?_
 refine x7x fun K20 hK20 => ?_
 refine x6x x9x (by rfl) ?_
 refine x1x rfl ?_
 refine y4y rfl rfl rfl ?_
 refine y0y rfl (fun hc21 => ?_) (fun hc21 => ?_)
 ·(simp at hc21; omega)
 try simp at hc21
 refine y1y ?_
 refine hK20 _ _ ?_
 clear hK20 K20
 refine x7x fun K22 hK22 => ?_
 refine x6x x9x (by rfl) ?_
 refine x1x rfl ?_
 refine x1x rfl ?_
 refine y4y rfl rfl rfl ?_
 refine y0y rfl (fun hc23 => ?_) (fun hc23 => ?_)
 ·(simp at hc23; done)
 try simp at hc23
 refine y1y ?_
 refine hK22 _ _ ?_
 clear hK22 K22
 refine x6x x9x (by rfl) ?_
 refine x2x rfl ?_
 refine y3y ⟨.inr rfl, ?_⟩
 exact z2z rfl rfl rfl
end
section
def X0 (w : World) : Cx := ⟨fun b => b < w.heap.size, fun b => b < w.heap.size, fun _ _ => none, fun _ _ => none⟩
theorem d4e (w : World) : SRh (X0 w) ⟨w, fun _ => False, fun b => b < w.heap.size, fun b => b < w.heap.size⟩ (fun _ => none) w := by
 refine ⟨fun _ => [], ?_, ?_, ?_, ?_, ?_, ?_, ?_, ?_, ?_, rfl, rfl, rfl, Nat.le_refl _, fun _ _ _ => rfl⟩
 ·intro id g e h; cases h
 ·intro id ge b h; cases h
 ·intro id id' ge ge' b h; cases h
 ·intro b hb; exact ⟨hb, fun id ge h => by cases h⟩
 ·intro b hb; exact hb
 ·intro b hb; exact .inl hb
 ·intro b hb; exact .inl hb
 ·intro id ge b h; cases h
 ·intro id g h; exact ⟨rfl, rfl⟩
theorem c5u {P : Program} {f : FuncId} {avs : List AV} {u : Value} (hC : a0z P f avs (.pv u)) (w : World) (vs : List Value) (hl : vs.length = avs.length) (hr : ∀ (i : Nat) (a : AV) (v : Value), avs[i]? = some a → vs[i]? = some v → VR (X0 w) w a v) :
  Calls P f vs.toArray w fun e w' => e = .returned u ∧ Below w.heap.size w w' :=
 (hC.2 (X0 w) _ (fun _ => none) w vs (d4e w) hl hr (fun id ge h => by cases h)).mono fun e w' ⟨v, he, X', hX, hS, hk, hv⟩ => by
  rw [hv.pv_inv] at he
  obtain ⟨F, hS⟩ := hS
  exact ⟨he, hS.os, hS.tape, hS.output, hS.size, fun k hk => hS.keep k hk (fun h => h)⟩
def e2q (k : IntKind) (w : World) (a : Option Addr) (len cap : Nat) (zs : List Int) : Prop :=
 (a = none ∧ len = 0 ∧ cap = 0 ∧ zs = []) ∨
 ∃ x, a = some x ∧ len ≤ cap ∧ cap ≤ maxLen ∧ zs.length = cap ∧ (∀ i, i < zs.length → w.cell? (x.add i) = some (.int k (zs.getD i 0))) ∧ ∀ n ∈ zs, (Lit.int k n).wf = true
end
section
variable {H : Type} (enc : TypeId × Value → H) (w : World)
theorem c7f : Rd enc Tryz.prog w 210 3 (fun x : St => s9s x) := by
 refine ⟨by rw [(x9x _ _ b2v).cells]; rfl, fun fuel cs x hx => ?_⟩
 obtain ⟨hl, hf⟩ := a6l (x9x _ _ b2v) rfl hx
 obtain ⟨a0, l0, h0⟩ := hf (j := 0) rfl (a1q (x9x _ _ y9y) rfl)
 obtain ⟨a1, l1, h1⟩ := hf (j := 1) rfl (a1q (x9x _ _ y9y) rfl)
 obtain ⟨a2, l2, h2⟩ := hf (j := 2) rfl (a1q (x9x _ _ y9y) rfl)
 exact ⟨⟨a0, a1, a2⟩, rfl, (r5r (o := 0) h0 l0 (r5r (o := 1) h1 l1 (r5r (o := 2) h2 l2 (b2a hl))))⟩
theorem b4l : Rd enc Tryz.prog w 163 7 (fun x : Ev => v9v x) := by
 refine ⟨by rw [(x9x _ _ a7y).cells]; rfl, fun fuel cs x hx => ?_⟩
 obtain ⟨hl, hf⟩ := a6l (x9x _ _ a7y) rfl hx
 obtain ⟨a0, l0, h0⟩ := hf (j := 0) rfl (a1q (x9x _ _ y9y) rfl)
 obtain ⟨a1, l1, h1⟩ := hf (j := 1) rfl (a1q (x9x _ _ y9y) rfl)
 obtain ⟨a2, l2, h2⟩ := hf (j := 2) rfl (a1q (x9x _ _ y9y) rfl)
 obtain ⟨a3, l3, h3⟩ := hf (j := 3) rfl (a1q (x9x _ _ y9y) rfl)
 obtain ⟨a4, l4, h4⟩ := hf (j := 4) rfl (a1q (x9x _ _ y9y) rfl)
 obtain ⟨a5, l5, h5⟩ := hf (j := 5) rfl (a1q (x9x _ _ y9y) rfl)
 obtain ⟨a6, l6, h6⟩ := hf (j := 6) rfl (a1q (x9x _ _ y9y) rfl)
 exact ⟨⟨a0, a1, a2, a3, a4, a5, a6⟩, rfl, (r5r (o := 0) h0 l0 (r5r (o := 1) h1 l1 (r5r (o := 2) h2 l2 (r5r (o := 3) h3 l3 (r5r (o := 4) h4 l4 (r5r (o := 5) h5 l5 (r5r (o := 6) h6 l6 (b2a hl))))))))⟩
theorem d5g : Rd enc Tryz.prog w 220 5 (fun x : Ou => a0y x) := by
 refine ⟨by rw [(x9x _ _ b2w).cells]; rfl, fun fuel cs x hx => ?_⟩
 obtain ⟨hl, hf⟩ := a6l (x9x _ _ b2w) rfl hx
 obtain ⟨a0, l0, h0⟩ := hf (j := 0) rfl (a1q (x9x _ _ y9y) rfl)
 obtain ⟨a1, l1, h1⟩ := hf (j := 1) rfl (a1q (x9x _ _ y9y) rfl)
 obtain ⟨a2, l2, h2⟩ := hf (j := 2) rfl (a1q (x9x _ _ y9y) rfl)
 obtain ⟨a3, l3, h3⟩ := hf (j := 3) rfl (a1q (x9x _ _ y9y) rfl)
 obtain ⟨a4, l4, h4⟩ := hf (j := 4) rfl (a1q (x9x _ _ y9y) rfl)
 exact ⟨⟨a0, a1, a2, a3, a4⟩, rfl, (r5r (o := 0) h0 l0 (r5r (o := 1) h1 l1 (r5r (o := 2) h2 l2 (r5r (o := 3) h3 l3 (r5r (o := 4) h4 l4 (b2a hl))))))⟩
theorem d7h : Rd enc Tryz.prog w 282 12 (fun x : Pa => a0s true x) := by
 refine ⟨by rw [(x9x _ _ a8x).cells]; rfl, fun fuel cs x hx => ?_⟩
 obtain ⟨hl, hf⟩ := a6l (x9x _ _ a8x) rfl hx
 obtain ⟨a0, l0, h0⟩ := hf (j := 0) rfl (b4l enc w)
 obtain ⟨a1, l1, h1⟩ := hf (j := 1) rfl (c7f enc w)
 obtain ⟨a2, l2, h2⟩ := hf (j := 2) rfl (a4k 76 (by decide) (x9x _ _ a7x) rfl (b4l enc w))
 obtain ⟨a3, l3, h3⟩ := hf (j := 3) rfl (a4k 104 (by decide) (x9x _ _ b2u) rfl (d5g enc w))
 exact ⟨⟨a0, a1, a2, a3⟩, rfl, (r5r (o := 0) h0 l0 (r5r (o := 7) h1 l1 (r5r (o := 10) h2 l2 (r5r (o := 11) h3 l3 (b2a hl)))))⟩
theorem d7i : Rd enc Tryz.prog w 213 5 (fun x : La => a0v true x) := by
 refine ⟨by rw [(x9x _ _ b0z).cells]; rfl, fun fuel cs x hx => ?_⟩
 obtain ⟨hl, hf⟩ := a6l (x9x _ _ b0z) rfl hx
 obtain ⟨a0, l0, h0⟩ := hf (j := 0) rfl (a1q (x9x _ _ y9y) rfl)
 obtain ⟨a1, l1, h1⟩ := hf (j := 1) rfl (c7f enc w)
 obtain ⟨a2, l2, h2⟩ := hf (j := 2) rfl (a4k 78 (by decide) (x9x _ _ a9t) rfl (d7h enc w))
 exact ⟨⟨a0, a1, a2⟩, rfl, (r5r (o := 0) h0 l0 (r5r (o := 1) h1 l1 (r5r (o := 4) h2 l2 (b2a hl))))⟩
theorem d7j : Rd enc Tryz.prog w 216 3 (fun x : Vi => a1n true x) := by
 refine ⟨by rw [(x9x _ _ b1a).cells]; rfl, fun fuel cs x hx => ?_⟩
 obtain ⟨hl, hf⟩ := a6l (x9x _ _ b1a) rfl hx
 obtain ⟨a0, l0, h0⟩ := hf (j := 0) rfl (a1q (x9x _ _ y9y) rfl)
 obtain ⟨a1, l1, h1⟩ := hf (j := 1) rfl (a1q (x9x _ _ y9y) rfl)
 obtain ⟨a2, l2, h2⟩ := hf (j := 2) rfl (a4k 76 (by decide) (x9x _ _ a7x) rfl (b4l enc w))
 exact ⟨⟨a0, a1, a2⟩, rfl, (r5r (o := 0) h0 l0 (r5r (o := 1) h1 l1 (r5r (o := 2) h2 l2 (b2a hl))))⟩
theorem d7k : Rd enc Tryz.prog w 42 13 (fun x : Nd => a1i true x) := by
 refine ⟨by rw [(x9x _ _ a4u).cells]; rfl, fun fuel cs x hx => ?_⟩
 obtain ⟨hl, hf⟩ := a6l (x9x _ _ a4u) rfl hx
 obtain ⟨a0, l0, h0⟩ := hf (j := 0) rfl (a1q (x9x _ _ y9y) rfl)
 obtain ⟨a1, l1, h1⟩ := hf (j := 1) rfl (d6c Tryz.underlying4 (by kernel_rfl))
 obtain ⟨a2, l2, h2⟩ := hf (j := 2) rfl (a1q (x9x _ _ y9y) rfl)
 obtain ⟨a3, l3, h3⟩ := hf (j := 3) rfl (a1q (x9x _ _ y9y) rfl)
 obtain ⟨a4, l4, h4⟩ := hf (j := 4) rfl (a4k 65 (by decide) (x9x _ _ b6v) rfl (d7i enc w))
 obtain ⟨a5, l5, h5⟩ := hf (j := 5) rfl (a4k 76 (by decide) (x9x _ _ a7x) rfl (b4l enc w))
 obtain ⟨a6, l6, h6⟩ := hf (j := 6) rfl (a4k 104 (by decide) (x9x _ _ b2u) rfl (d5g enc w))
 obtain ⟨a7, l7, h7⟩ := hf (j := 7) rfl (a1q (x9x _ _ y9y) rfl)
 obtain ⟨a8, l8, h8⟩ := hf (j := 8) rfl (a1q (x9x _ _ y9y) rfl)
 obtain ⟨a9, l9, h9⟩ := hf (j := 9) rfl (a4k 141 (by decide) (x9x _ _ b6w) rfl (d7j enc w))
 obtain ⟨a10, l10, h10⟩ := hf (j := 10) rfl (a4k 3 (by decide) (x9x _ _ p4p) rfl (a1q (x9x _ _ y9y) rfl))
 obtain ⟨a11, l11, h11⟩ := hf (j := 11) rfl (a1q (x9x _ _ y9y) rfl)
 obtain ⟨a12, l12, h12⟩ := hf (j := 12) rfl (a1q (x9x _ _ y9y) rfl)
 exact ⟨⟨a0, a1, a2, a3, a4, a5, a6, a7, a8, a9, a10, a11, a12⟩, rfl, (r5r (o := 0) h0 l0 (r5r (o := 1) h1 l1 (r5r (o := 2) h2 l2 (r5r (o := 3) h3 l3 (r5r (o := 4) h4 l4 (r5r (o := 5) h5 l5 (r5r (o := 6) h6 l6 (r5r (o := 7) h7 l7 (r5r (o := 8) h8 l8 (r5r (o := 9) h9 l9 (r5r (o := 10) h10 l10 (r5r (o := 11) h11 l11 (r5r (o := 12) h12 l12 (b2a hl))))))))))))))⟩
theorem d2c : Rd enc Tryz.prog w 38 1 (fun x : List Ev => [r7r true x]) := (a4k 76 (by decide) (x9x _ _ a7x) rfl (b4l enc w))
variable {enc} {w}
theorem d9f {α : Type} {e : α → List AV} {t sz : Nat} {P : Program} (hr : Rd enc P w t sz e) {cs : Array Value} {d : DataW H} {p : List MemPlace} (h : DataW.Trod enc P w 0 (fun _ => true) true t (.agg cs) d p) : ∃ a, VR (X0 w) w (.agg (e a)) (.agg cs) := by
 obtain ⟨fuel, hf⟩ := h
 obtain ⟨a, _, h2⟩ := hr.2 _ _ _ hf
 refine ⟨a, .cl ?_⟩
 have := CR.agg (ok1 := ltw w) (ok2 := ltw w) (w := w) (cs := e a) cs.toList h2.len h2.one h2.rel
 have e : cs.toList.toArray = cs := by simp
 rw [e] at this
 exact this
theorem d9g {α : Type} {e : α → AV} {t : Nat} {P : Program} (hr : Rd enc P w t 1 (fun a => [e a])) {v : Value} (h1 : v.oneCell' = true) {d : DataW H} {p : List MemPlace} (h : DataW.Trod enc P w 0 (fun _ => true) true t v d p) : ∃ a, VR (X0 w) w (e a) v := by
 obtain ⟨fuel, hf⟩ := h
 obtain ⟨a, _, h2⟩ := hr.2 _ _ _ hf
 rw [a9q h1] at h2
 exact ⟨a, .cl (h2.rel 0 _ _ rfl rfl)⟩
end
end Go.Proofs.YtpadkogpeobboaaGreat.Am
