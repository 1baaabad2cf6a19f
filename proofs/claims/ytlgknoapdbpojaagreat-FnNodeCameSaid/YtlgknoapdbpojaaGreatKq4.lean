/- Part 4 of the texts that the proof of LawFnNodeCame leans on, merged by program. -/
import Derived.Test.YtlgknoapdbpojaaGreatKq3
set_option linter.unusedVariables false
set_option linter.unusedSimpArgs false
set_option maxHeartbeats 4000000
set_option autoImplicit true
set_option relaxedAutoImplicit true
namespace Go.Proofs.YtlgknoapdbpojaaGreat.Am
open Go Go.RowKit
section
theorem b9h (c : Bool) (n : Nd) : a1r Tryz.prog 233 [.agg (w5w c n)] (.pv (.bool (decide (a7z n)))) := by
 refine pX Tryz.f233 [.pv (.bool (decide (a7z n)))] 1 ?_
 refine exR (u2u (id := 0) rfl rfl rfl (x0x rfl (exA 2 rfl rfl (x9x rfl rfl rfl (c6r ..) (x4x rfl (z9z rfl rfl ?_ ?_))))))<;>intro u<;>try simp at u
 ·refine x1x 29 rfl rfl (x6x ⟨.inr rfl, ?_⟩)
  refine y9y rfl ?_ rfl
  exact kF (by unfold a7z; omega)
 refine x1x 2 rfl rfl (z1z rfl rfl (x9x rfl rfl rfl (w9w ..) (x1x 2 rfl rfl (z9z rfl rfl ?_ ?_))))<;>intro u<;>try simp at u
 ·refine x1x 24 rfl rfl (x6x ⟨.inr rfl, ?_⟩)
  refine y9y rfl ?_ rfl
  exact kF (by unfold a7z; omega)
 refine x1x 2 rfl rfl (z1z rfl rfl (x9x rfl rfl rfl (w9w ..) (x1x 2 rfl rfl (z9z rfl rfl ?_ ?_))))<;>intro u<;>try simp at u
 ·refine x1x 19 rfl rfl (x6x ⟨.inr rfl, ?_⟩)
  refine y9y rfl ?_ rfl
  exact kF (by unfold a7z; omega)
 refine x1x 2 rfl rfl (z1z rfl rfl (x9x rfl rfl rfl (w9w ..) (x1x 2 rfl rfl (z9z rfl rfl ?_ ?_))))<;>intro u<;>try simp at u
 ·refine x1x 14 rfl rfl (x6x ⟨.inr rfl, ?_⟩)
  refine y9y rfl ?_ rfl
  exact kF (by unfold a7z; omega)
 refine x1x 2 rfl rfl (z1z rfl rfl (x9x rfl rfl rfl (w9w ..) (x1x 2 rfl rfl (z9z rfl rfl ?_ ?_))))<;>intro u<;>try simp at u
 ·refine x1x 9 rfl rfl (x6x ⟨.inr rfl, ?_⟩)
  refine y9y rfl ?_ rfl
  exact kF (by unfold a7z; omega)
 refine x1x 2 rfl rfl (z1z rfl rfl (x9x rfl rfl rfl (w9w ..) (x1x 2 rfl rfl (z9z rfl rfl ?_ ?_))))<;>intro u<;>try simp at u
 ·refine x1x 4 rfl rfl (x6x ⟨.inr rfl, ?_⟩)
  refine y9y rfl ?_ rfl
  exact kF (by unfold a7z; omega)
 refine x1x 2 rfl rfl (z1z rfl rfl (x9x rfl rfl rfl (w9w ..) (x1x 2 rfl rfl (x6x ⟨.inr rfl, ?_⟩))))
 refine y9y rfl ?_ rfl
 exact congrArg (fun b : Bool => [AV.pv (.bool b)]) (decide_eq_decide.2 (by unfold a7z; omega))
theorem w0w  : a1r Tryz.prog 143 [] (.pv (.int .i64 9999)) := by
 refine pX Tryz.f143 [.pv (.int .i64 9999)] 0 ?_
 refine exR (x0x rfl (exR (x0x rfl (x6x ⟨.inr rfl, ?_⟩))))
 exact y9y rfl rfl rfl
theorem b1k (c : Bool) (v : Vi) : a1r Tryz.prog 168 [.agg (a5k c v)] (.pv (.bool (kb (d3f v)))) := by
 refine pX Tryz.f168 [.pv (.bool (kb (d3f v)))] 1 ?_
 refine exR (u2u (id := 0) rfl rfl rfl (x0x rfl (exD (x1x 2 rfl rfl (x9x rfl rfl rfl (w0w ..) (x9x rfl rfl rfl (u7u ..) (x4x rfl (z9z rfl rfl ?_ ?_))))))))<;>intro u<;>try simp at u
 ·refine x1x 11 rfl rfl ⟨by kernel_rfl, x6x ⟨.inr rfl, ?_⟩⟩
  refine y9y rfl ?_ rfl
  exact congrArg (fun b : Bool => [AV.pv (.bool b)]) (a5l (fun h => by obtain ⟨q1, q2, q3⟩ := h; omega))
 refine x1x 2 rfl rfl (z1z rfl rfl (x9x rfl rfl rfl (w0w ..) (z1z rfl rfl (x9x rfl rfl rfl (u7u ..) (x1x 2 rfl rfl (z9z rfl rfl ?_ ?_))))))<;>intro u<;>try simp at u
 ·refine x1x 5 rfl rfl ⟨by kernel_rfl, x6x ⟨.inr rfl, ?_⟩⟩
  refine y9y rfl ?_ rfl
  exact congrArg (fun b : Bool => [AV.pv (.bool b)]) (a5l (fun h => by obtain ⟨q1, q2, q3⟩ := h; omega))
 refine x1x 2 rfl rfl (z1z rfl rfl (x9x rfl rfl rfl (a4i ..) (z1z rfl rfl (x9x rfl rfl rfl (a4c ..) (x1x 2 rfl rfl ⟨by kernel_rfl, x6x ⟨.inr rfl, ?_⟩⟩)))))
 refine y9y rfl ?_ rfl
 exact congrArg (fun b : Bool => [AV.pv (.bool b)]) (e7m ⟨fun h => ⟨by omega, by omega, h⟩, fun h => h.2.2⟩)
theorem c1y (c : Bool) (n : Nd) : a1r Tryz.prog 146 [.agg (w5w c n)] (.pv (.bool (kb (a9e n)))) := by
 refine a9s r6r (fn := Tryz.f146) (by kernel_rfl) (by kernel_rfl) rfl (outs := [.pv (.bool (kb (a9e n)))]) (by rfl) (a0q rfl) 1 ?_
 refine exR (u2u (id := 0) rfl rfl rfl (x0x rfl (x2x fun K1 hK1 => ?_)))
 refine exD (x1x 2 rfl rfl (z3z rfl a0o rfl (x1x 2 rfl rfl (z9z rfl rfl ?_ ?_))))<;>intro u<;>try simp at u
 ·refine x1x 24 rfl rfl ⟨by kernel_rfl, x7x rfl (fun hc17 => ?_) (fun hc17 => ?_)⟩
  rotate_left
  ·simp at hc17
  try simp at hc17
  refine exR (x0x rfl (x6x ⟨.inr rfl, ?_⟩))
  refine y9y rfl ?_ rfl
  exact congrArg (fun b : Bool => [AV.pv (.bool b)]) (a5l (fun h => by obtain ⟨q1, q2, q3, q4, q5, q6⟩ := h; omega))
 refine x1x 2 rfl rfl (z1z rfl rfl (z3z rfl q2q rfl (x1x 3 rfl rfl (z9z rfl rfl ?_ ?_))))<;>intro u<;>try simp at u
 ·refine x1x 18 rfl rfl ⟨by kernel_rfl, x7x rfl (fun hc16 => ?_) (fun hc16 => ?_)⟩
  rotate_left
  ·simp at hc16
  try simp at hc16
  refine exR (x0x rfl (x6x ⟨.inr rfl, ?_⟩))
  refine y9y rfl ?_ rfl
  exact congrArg (fun b : Bool => [AV.pv (.bool b)]) (a5l (fun h => by obtain ⟨q1, q2, q3, q4, q5, q6⟩ := h; omega))
 refine x1x 2 rfl rfl (z1z rfl rfl (x9x rfl rfl rfl (w0w ..) (z1z rfl rfl (x9x rfl rfl rfl (u7u ..) (x1x 3 rfl rfl (z9z rfl rfl ?_ ?_))))))<;>intro u<;>try simp at u
 ·refine x1x 11 rfl rfl ⟨by kernel_rfl, x7x rfl (fun hc15 => ?_) (fun hc15 => ?_)⟩
  rotate_left
  ·simp at hc15
  try simp at hc15
  refine exR (x0x rfl (x6x ⟨.inr rfl, ?_⟩))
  refine y9y rfl ?_ rfl
  exact congrArg (fun b : Bool => [AV.pv (.bool b)]) (a5l (fun h => by obtain ⟨q1, q2, q3, q4, q5, q6⟩ := h; omega))
 refine x1x 2 rfl rfl (z1z rfl rfl (x9x rfl rfl rfl (w0w ..) (z1z rfl rfl (x9x rfl rfl rfl (u7u ..) (x1x 3 rfl rfl (z9z rfl rfl ?_ ?_))))))<;>intro u<;>try simp at u
 ·refine x1x 4 rfl rfl ⟨by kernel_rfl, x7x rfl (fun hc14 => ?_) (fun hc14 => ?_)⟩
  rotate_left
  ·simp at hc14
  try simp at hc14
  refine exR (x0x rfl (x6x ⟨.inr rfl, ?_⟩))
  refine y9y rfl ?_ rfl
  exact congrArg (fun b : Bool => [AV.pv (.bool b)]) (a5l (fun h => by obtain ⟨q1, q2, q3, q4, q5, q6⟩ := h; omega))
 refine x1x 2 rfl rfl (z1z rfl rfl (x9x rfl rfl rfl (u7u ..) (x1x 2 rfl rfl ⟨by kernel_rfl, x7x rfl ?_ ?_⟩)))<;>intro u<;>try simp at u
 ·refine exR (x0x rfl (x6x ⟨.inr rfl, ?_⟩))
  refine y9y rfl ?_ rfl
  exact congrArg (fun b : Bool => [AV.pv (.bool b)]) (a5l (fun h => by obtain ⟨q1, q2, q3, q4, q5, q6⟩ := h; omega))
 have hL : n.views.length = 3 ∧ n.known.length = 3 ∧ (0 ≤ n.version ∧ n.version ≤ 9999) ∧ (0 ≤ n.round ∧ n.round ≤ 9999) ∧ (0 ≤ n.low ∧ n.low ≤ 41) := by omega
 refine x8x (hK1 _ _ (x2x fun K7 hK7 => ?_))
 refine exR (x0x rfl (y0y ?_))
 refine z2z (ι := Nat) (fun i γ1 => [(3, pI (i : Int))]) (fun i γ1 => []) (fun i => i ≤ 3 ∧ c7i n.views (fun j v => ∀ k, n.known[j]? = some k → d3f v ∧ 0 ≤ k ∧ k ≤ 41) i) (fun i => 3 - i) (y3y 1 rfl Cov.nil) (y8y 0 rfl HE.nil) 0 ⟨by omega, a2i⟩ [] cv hv rfl fun i γ1 hi => ?_
 obtain ⟨h1, h2⟩ := hi
 refine x2x fun K8 hK8 => ?_
 refine exA 2 rfl rfl (y4y rfl ?_ ?_)<;>intro u<;>try simp at u
 ·obtain rfl : i = 3 := by omega
  refine z4z (hK7 _ _ (exR (x0x rfl (x6x ⟨.inr rfl, ?_⟩))))
  refine y9y rfl ?_ rfl
  exact congrArg (fun b : Bool => [AV.pv (.bool b)]) (e1v ⟨hL.1, hL.2.1, hL.2.2.1, hL.2.2.2.1, hL.2.2.2.2, fun i v k a b => a3q h2 (by omega) i v a k b⟩)
 obtain ⟨v, hv⟩ := gE n.views i
 obtain ⟨k, hk⟩ := gE n.known i
 refine x8x (hK8 _ _ (x2x fun K10 hK10 => ?_))
 refine y0y (exA 3 rfl rfl (y7y rfl rfl a0o rfl q8q rfl (by assumption) ?_))
 refine u5u rfl q8q rfl rfl (x9x rfl rfl rfl (b1k ..) (x1x 2 rfl rfl (z9z rfl rfl ?_ ?_)))<;>intro hg11<;>try simp at hg11
 ·have hbad : ¬ d3f v := a0k (by simpa using hg11)
  refine x1x 7 rfl rfl (x7x rfl (fun hc13 => ?_) (fun hc13 => ?_))
  rotate_left
  ·simp at hc13
  try simp at hc13
  refine exR (x0x rfl (x6x ⟨.inr rfl, ?_⟩))
  refine y9y rfl ?_ rfl
  exact congrArg (fun b : Bool => [AV.pv (.bool b)]) (a5l (fun h => hbad (h.2.2.2.2.2 _ _ _ hv hk).1))
 have hvo : d3f v := a1o.1 (by simpa using hg11)
 refine x1x 3 rfl rfl (z1z rfl rfl (y7y rfl rfl q2q rfl q1q rfl (by assumption) ?_))
 refine z1z rfl rfl (w4w rfl q1q rfl (z1z rfl rfl (x9x rfl rfl rfl (u7u ..) (x1x 2 rfl rfl (y4y rfl ?_ ?_)))))<;>intro u<;>try simp at u
 ·refine x8x ?_
  refine hK10 _ _ ?_
  refine exG ?_
  refine x4x rfl ?_
  refine z5z (b := 1) rfl rfl (by omega) ?_
  refine x0x rfl ?_
  exact ⟨i + 1, ⟨⟨by omega, a0i h2 hv (fun k2 hk2 => by rw [hk] at hk2; cases hk2; exact ⟨hvo, by omega⟩)⟩, by omega⟩, [], (y3y 3 rfl Cov.nil), (y3y 1 rfl Cov.nil), HE.nil, (y8y 0 rfl HE.nil), rfl⟩
 refine exR (x0x rfl (x6x ⟨.inr rfl, ?_⟩))
 refine y9y rfl ?_ rfl
 exact congrArg (fun b : Bool => [AV.pv (.bool b)]) (a5l (fun h => by have := (h.2.2.2.2.2 _ _ _ hv hk).2; omega))
theorem c3l (c : Bool) (n : Nd) : a1r Tryz.prog 129 [.agg (w5w c n)] (.pv (.bool (kb (a2k n)))) := by
 refine a9s r6r (fn := Tryz.f129) (by kernel_rfl) (by kernel_rfl) rfl (outs := [.pv (.bool (kb (a2k n)))]) (by rfl) (a0q rfl) 4 ?_
 refine exR (u2u (id := 0) rfl rfl rfl (x0x rfl (x2x fun K1 hK1 => ?_)))
 refine exR (x5x rfl y5y rfl rfl rfl (x9x rfl rfl rfl (b9h ..) (x1x 2 rfl rfl (z9z rfl rfl ?_ ?_))))<;>intro hg2<;>try simp at hg2
 ·have hX : ¬ a7z n := hg2
  refine x1x 10 rfl rfl (x7x rfl (fun hc33 => ?_) (fun hc33 => ?_))
  rotate_left
  ·simp at hc33
  try simp at hc33
  try have hX : ¬ a7k okO b0r n.outs 96 = true := by first | exact hc33 | simpa using hc33
  refine exR (x0x rfl (x6x ⟨.inr rfl, ?_⟩))
  refine y9y rfl ?_ rfl
  exact congrArg (fun b : Bool => [AV.pv (.bool b)]) (a5l (fun h => by obtain ⟨q1, q2, q3, q4, q5, q6, q7, q8, q9⟩ := h; exact hX q1))
 have hA1 : a7z n := hg2
 refine x1x 2 rfl rfl (z1z rfl rfl (x9x rfl rfl rfl (a8c ..) (x1x 3 rfl rfl (z9z rfl rfl ?_ ?_))))<;>intro hg3<;>try simp at hg3
 ·have hX : ¬ a7k okE a2z n.kept 100 = true := by simpa using hg3
  refine x1x 4 rfl rfl (x7x rfl (fun hc32 => ?_) (fun hc32 => ?_))
  rotate_left
  ·simp at hc32
  try simp at hc32
  try have hX : ¬ a7k okO b0r n.outs 96 = true := by first | exact hc32 | simpa using hc32
  refine exR (x0x rfl (x6x ⟨.inr rfl, ?_⟩))
  refine y9y rfl ?_ rfl
  exact congrArg (fun b : Bool => [AV.pv (.bool b)]) (a5l (fun h => by obtain ⟨q1, q2, q3, q4, q5, q6, q7, q8, q9⟩ := h; exact hX q2))
 have hA2 : a7k okE a2z n.kept 100 = true := hg3
 refine x1x 2 rfl rfl (z1z rfl rfl (x9x rfl rfl rfl (b6y ..) (x1x 2 rfl rfl (x7x rfl ?_ ?_))))<;>intro hc4<;>try simp at hc4
 ·try have hX : ¬ a7k okO b0r n.outs 96 = true := by simpa using hc4
  refine exR (x0x rfl (x6x ⟨.inr rfl, ?_⟩))
  refine y9y rfl ?_ rfl
  exact congrArg (fun b : Bool => [AV.pv (.bool b)]) (a5l (fun h => by obtain ⟨q1, q2, q3, q4, q5, q6, q7, q8, q9⟩ := h; exact hX q3))
 have hA3 : a7k okO b0r n.outs 96 = true := hc4
 refine x8x (hK1 _ _ (x2x fun K5 hK5 => ?_))
 refine exA 2 rfl rfl (z3z rfl r3r rfl (x4x rfl (y0y (r1r 27 rfl fun hlen0 => ?_))))
 refine z2z (ι := Nat) (fun i γ1 => [(29, pI (i : Int))]) (fun i γ1 => [(1, ((γ1 1), .dead))]) (fun i => i ≤ n.outs.length ∧ c7i n.outs (fun _ o => o.time < n.g) i) (fun i => n.outs.length - i) (cK [1, 27, 28] rfl) (hK [0, 2, 3] rfl) 0 ⟨by omega, a2i⟩ [0, _] cv hv rfl fun i γ1 hi => ?_
 obtain ⟨a1, a2⟩ := hi
 refine exR (v6v rfl rfl rfl (x2x fun K6 hK6 => ?_))
 refine x7x rfl ?_ ?_<;>intro u<;>try simp at u
 ·obtain ⟨o, ho⟩ := gE n.outs i
  refine x8x (hK6 _ _ (x2x fun K8 hK8 => ?_))
  refine y0y (exR (y7y rfl rfl r3r rfl w7w rfl (by assumption) ?_))
  refine u5u rfl w7w rfl rfl (y6y (id := 1) w7w c4j rfl (x3x rfl rfl w7w rfl rfl rfl rfl (exA 5 rfl rfl (y4y rfl ?_ ?_))))<;>intro u<;>try simp at u
  ·have hlt : o.time < n.g := by omega
   refine x8x (hK8 _ _ (exG (z5z (b := 1) rfl rfl (by omega) (x4x rfl ?_))))
   exact ⟨i + 1, ⟨⟨by omega, a0i a2 ho hlt⟩, by omega⟩, [0, _], cv, cv, hv, hv, rfl⟩
  have hX : ¬ o.time < n.g := by omega
  refine exR (x0x rfl (x6x ⟨.inr rfl, ?_⟩))
  refine y9y rfl ?_ rfl
  exact congrArg (fun b : Bool => [AV.pv (.bool b)]) (a5l (fun h => by obtain ⟨q1, q2, q3, q4, q5, q6, q7, q8, q9⟩ := h; exact hX (q4 _ _ ho)))
 have hO : ∀ (i : Nat) o, n.outs[i]? = some o → o.time < n.g := a3q a2 (by omega)
 refine z4z (hK5 _ _ (exA 2 rfl rfl (x9x rfl rfl rfl (b4g ..) (x0x rfl (x2x fun K10 hK10 => ?_)))))
 refine exA 2 rfl rfl (z3z rfl r5r rfl (x4x rfl (z3z rfl q2q rfl (x1x 2 rfl rfl (z9z rfl rfl ?_ ?_)))))<;>intro u<;>try simp at u
 ·refine x1x 10 rfl rfl (x7x rfl (fun hc31 => ?_) (fun hc31 => ?_))
  rotate_left
  ·simp at hc31
  try simp at hc31
  refine exR (x0x rfl (x6x ⟨.inr rfl, ?_⟩))
  refine y9y rfl ?_ rfl
  exact congrArg (fun b : Bool => [AV.pv (.bool b)]) (a5l (fun h => by obtain ⟨q1, q2, q3, q4, q5, q6, q7, q8, q9⟩ := h; omega))
 refine x1x 2 rfl rfl (z1z rfl rfl (z3z rfl a0o rfl (x1x 3 rfl rfl (z9z rfl rfl ?_ ?_))))<;>intro u<;>try simp at u
 ·refine x1x 4 rfl rfl (x7x rfl (fun hc30 => ?_) (fun hc30 => ?_))
  rotate_left
  ·simp at hc30
  try simp at hc30
  refine exR (x0x rfl (x6x ⟨.inr rfl, ?_⟩))
  refine y9y rfl ?_ rfl
  exact congrArg (fun b : Bool => [AV.pv (.bool b)]) (a5l (fun h => by obtain ⟨q1, q2, q3, q4, q5, q6, q7, q8, q9⟩ := h; omega))
 refine x1x 2 rfl rfl (z1z rfl rfl (z3z rfl q2q rfl (x1x 2 rfl rfl (x7x rfl ?_ ?_))))<;>intro u<;>try simp at u
 ·refine exR (x0x rfl (x6x ⟨.inr rfl, ?_⟩))
  refine y9y rfl ?_ rfl
  exact congrArg (fun b : Bool => [AV.pv (.bool b)]) (a5l (fun h => by obtain ⟨q1, q2, q3, q4, q5, q6, q7, q8, q9⟩ := h; omega))
 have hL : n.lanes.length = (s2s n.id 4).length ∧ n.views.length = 3 ∧ n.known.length = 3 := by omega
 refine x8x (hK10 _ _ (x2x fun K14 hK14 => ?_))
 refine exA 2 rfl rfl (z3z rfl r5r rfl (x4x rfl (y0y (r1r 61 rfl fun hlen1 => ?_))))
 refine z2z (ι := Nat) (fun j γ2 => [(63, pI (j : Int))]) (fun j γ2 => [(2, ((γ2 2), .dead))]) (fun j => j ≤ n.lanes.length ∧ c7i n.lanes (fun j l => (s2s n.id 4)[j]? = some l.proc ∧ a6t l = true) j) (fun j => n.lanes.length - j) (cK [1, 5, 61, 62] rfl) (hK [0, 1, 3] rfl) 0 ⟨by omega, a2i⟩ [0, 0, _] cv hv rfl fun j γ2 hi => ?_
 obtain ⟨b1, b2⟩ := hi
 refine exR (v6v rfl rfl rfl (x2x fun K15 hK15 => ?_))
 refine x7x rfl ?_ ?_<;>intro u<;>try simp at u
 ·obtain ⟨l, hl⟩ := gE n.lanes j
  obtain ⟨q, hq⟩ := gE (s2s n.id 4) j
  refine x8x (hK15 _ _ (x2x fun K17 hK17 => ?_))
  refine y0y (exR (x4x rfl (y7y rfl rfl r5r rfl v7v rfl (by assumption) ?_)))
  refine u5u rfl v7v rfl rfl (y6y (id := 2) v7v a9t rfl (x0x rfl (x3x rfl rfl v7v rfl rfl rfl rfl (exD (x1x 4 rfl rfl (y7y rfl rfl q2q rfl q1q rfl (by assumption) ?_))))))
  refine x1x 3 rfl rfl (z9z rfl rfl ?_ ?_)<;>intro hg18<;>try simp at hg18
  ·have hX : ¬ l.proc = q := hg18
   refine x1x 3 rfl rfl ⟨by kernel_rfl, x7x rfl (fun hc20 => ?_) (fun hc20 => ?_)⟩
   rotate_left
   ·simp at hc20
   try simp at hc20
   try have hX : ¬ a6t l = true := by first | exact hc20 | simpa using hc20
   refine exR (x0x rfl (x6x ⟨.inr rfl, ?_⟩))
   refine y9y rfl ?_ rfl
   exact congrArg (fun b : Bool => [AV.pv (.bool b)]) (a5l (fun h => by obtain ⟨q1, q2, q3, q4, q5, q6, q7, q8, q9⟩ := h; have := (q8 _ _ hl).1; rw [hq] at this; exact hX (Option.some.inj this).symm))
  have hpe : l.proc = q := hg18
  refine x5x rfl v7v rfl rfl rfl (z1z rfl rfl (x9x rfl rfl rfl (c6w ..) (x1x 2 rfl rfl ⟨by kernel_rfl, y4y rfl ?_ ?_⟩)))<;>intro hc19<;>try simp at hc19
  ·have hlo : a6t l = true := hc19
   refine x8x (hK17 _ _ (exG (z5z (b := 1) rfl rfl (by omega) (x4x rfl ?_))))
   exact ⟨j + 1, ⟨⟨by omega, a0i b2 hl ⟨by rw [hq, hpe], hlo⟩⟩, by omega⟩, [0, 0, _], cv, cv, hv, hv, rfl⟩
  try have hX : ¬ a6t l = true := by simpa using hc19
  refine exR (x0x rfl (x6x ⟨.inr rfl, ?_⟩))
  refine y9y rfl ?_ rfl
  exact congrArg (fun b : Bool => [AV.pv (.bool b)]) (a5l (fun h => by obtain ⟨q1, q2, q3, q4, q5, q6, q7, q8, q9⟩ := h; exact hX (q8 _ _ hl).2))
 have hN : e3b n := a3q b2 (by omega)
 refine z4z (hK14 _ _ (x2x fun K21 hK21 => ?_))
 refine exA 2 rfl rfl (z3z rfl a0o rfl (x4x rfl (y0y (r1r 82 rfl fun hlen2 => ?_))))
 refine z2z (ι := Nat) (fun k γ3 => [(84, pI (k : Int))]) (fun k γ3 => [(3, ((γ3 3), .dead))]) (fun k => k ≤ n.views.length ∧ c7i n.views (fun j v => ∀ k, n.known[j]? = some k → d3f v ∧ 0 ≤ k ∧ k ≤ 41) k) (fun k => n.views.length - k) (cK [1, 82, 83] rfl) (hK [0, 1, 2] rfl) 0 ⟨by omega, a2i⟩ [0, 0, 0, _] cv hv rfl fun k γ3 hi => ?_
 obtain ⟨c1, c2⟩ := hi
 refine exR (v6v rfl rfl rfl (x2x fun K22 hK22 => ?_))
 refine y4y rfl ?_ ?_<;>intro u<;>try simp at u
 ·have hV : d8s n := fun i v k0 a b => a3q c2 (by omega) i v a k0 b
  refine z4z (hK21 _ _ (exR (x0x rfl (x6x ⟨.inr rfl, ?_⟩))))
  refine y9y rfl ?_ rfl
  exact congrArg (fun b : Bool => [AV.pv (.bool b)]) (e1v ⟨hA1, hA2, hA3, hO, hL.1, hL.2.1, hL.2.2, hN, hV⟩)
 obtain ⟨v, hv⟩ := gE n.views k
 obtain ⟨k0, hk⟩ := gE n.known k
 refine x8x (hK22 _ _ (x2x fun K24 hK24 => ?_))
 refine y0y (exR (x4x rfl (y7y rfl rfl a0o rfl q8q rfl (by assumption) ?_)))
 refine u5u rfl q8q rfl rfl (y6y (id := 3) q8q a9v rfl (x0x rfl (x3x rfl rfl q8q rfl rfl rfl rfl ?_)))
 refine a0c (ι := Unit) (fun _i γ4 => [(10, .pv (.bool (kb (d3f v))))]) (fun _i γ4 => []) (fun _i => True) (cK [1, 8, 82, 83, 84] rfl) (hK [0, 1, 2, 3] rfl) ?_ fun _i γ4 hi => ?_
 ·refine exG (x1x 2 rfl rfl (x9x rfl rfl rfl (w9w ..) (x4x rfl (z9z rfl rfl ?_ ?_))))<;>intro u<;>try simp at u
  ·refine d7b rfl rfl ?_
   refine d7b rfl rfl ?_
   refine b9p rfl rfl ?_
   refine x4x rfl ?_
   refine d7b rfl rfl ?_
   refine d7b rfl rfl ?_
   refine d7b rfl rfl ?_
   refine b9p rfl rfl ?_
   refine x0x rfl ?_
   exact ⟨(), trivial, [], (Cov.cons' (t := 10) rfl (by exact congrArg (fun b : Bool => AV.pv (.bool b)) (a5l (fun h => by obtain ⟨q1, q2, q3⟩ := h; omega))) Cov.nil), (y3y 1 rfl (y3y 8 rfl (y3y 82 rfl (y3y 83 rfl (y3y 84 rfl Cov.nil))))), HE.nil, (y8y 0 rfl (y8y 1 rfl (y8y 2 rfl (y8y 3 rfl HE.nil)))), rfl⟩
  refine x1x 2 rfl rfl (z1z rfl rfl (x9x rfl rfl rfl (w9w ..) (x1x 2 rfl rfl (z9z rfl rfl ?_ ?_))))<;>intro u<;>try simp at u
  ·refine x1x 4 rfl rfl ?_
   exact ⟨(), trivial, [], (Cov.cons' (t := 10) rfl (by exact congrArg (fun b : Bool => AV.pv (.bool b)) (a5l (fun h => by obtain ⟨q1, q2, q3⟩ := h; omega))) Cov.nil), (y3y 1 rfl (y3y 8 rfl (y3y 82 rfl (y3y 83 rfl (y3y 84 rfl Cov.nil))))), HE.nil, (y8y 0 rfl (y8y 1 rfl (y8y 2 rfl (y8y 3 rfl HE.nil)))), rfl⟩
  refine x1x 2 rfl rfl ?_
  refine z1z rfl rfl ?_
  refine x9x rfl rfl rfl (a8c ..) ?_
  refine x1x 2 rfl rfl ?_
  exact ⟨(), trivial, [], (Cov.cons' (t := 10) rfl (by exact congrArg (fun b : Bool => AV.pv (.bool b)) (e7m ⟨fun h => ⟨by omega, by omega, h⟩, fun h => h.2.2⟩)) Cov.nil), (y3y 1 rfl (y3y 8 rfl (y3y 82 rfl (y3y 83 rfl (y3y 84 rfl Cov.nil))))), HE.nil, (y8y 0 rfl (y8y 1 rfl (y8y 2 rfl (y8y 3 rfl HE.nil)))), rfl⟩
 ·try dsimp only [b2o, b2p]
  refine exA 3 rfl rfl (z9z rfl rfl ?_ ?_)<;>intro hg27<;>try simp at hg27
  ·have hX : ¬ d3f v := a0k (by simpa using hg27)
   refine x1x 7 rfl rfl (x7x rfl (fun hc29 => ?_) (fun hc29 => ?_))
   rotate_left
   ·simp at hc29
   try simp at hc29
   refine exR (x0x rfl (x6x ⟨.inr rfl, ?_⟩))
   refine y9y rfl ?_ rfl
   exact congrArg (fun b : Bool => [AV.pv (.bool b)]) (a5l (fun h => by obtain ⟨q1, q2, q3, q4, q5, q6, q7, q8, q9⟩ := h; exact hX (q9 _ _ _ hv hk).1))
  have hvo : d3f v := a1o.1 (by simpa using hg27)
  refine x1x 3 rfl rfl (z1z rfl rfl (y7y rfl rfl q2q rfl q1q rfl (by assumption) ?_))
  refine z1z rfl rfl (w4w rfl q1q rfl (z1z rfl rfl (x9x rfl rfl rfl (w9w ..) (z1z rfl rfl (a1s rfl (b9p rfl rfl (y4y rfl ?_ ?_)))))))<;>intro u<;>try simp at u
  ·refine x8x ?_
   refine hK24 _ _ ?_
   refine exG ?_
   refine z5z (b := 1) rfl rfl (by omega) ?_
   refine x4x rfl ?_
   exact ⟨k + 1, ⟨⟨by omega, a0i c2 hv (fun k2 hk2 => by rw [hk] at hk2; cases hk2; exact ⟨hvo, by omega⟩)⟩, by omega⟩, [0, 0, 0, _], (y3y 84 rfl Cov.nil), (y3y 1 rfl (y3y 82 rfl (y3y 83 rfl Cov.nil))), (HE.kill rfl HE.nil), (y8y 0 rfl (y8y 1 rfl (y8y 2 rfl HE.nil))), rfl⟩
  refine exR (x0x rfl (x6x ⟨.inr rfl, ?_⟩))
  refine y9y rfl ?_ rfl
  exact congrArg (fun b : Bool => [AV.pv (.bool b)]) (a5l (fun h => by obtain ⟨q1, q2, q3, q4, q5, q6, q7, q8, q9⟩ := h; have := (q9 _ _ _ hv hk).2; omega))
end
section
theorem b9i (c : Bool) (p : Pa) (ps : List Pa) : Meth Tryz.prog 236 1 [0] [.ptr 0 0 0, .agg (a3n c p)] [(0, (0, .chn 256 259 ((ps).map (a3n c))))] (.tup []) [(0, (0, .chn 256 259 ((ps ++ [p]).map (a3n c))))] := by
 refine a4e r6r (fn := Tryz.f236) (by kernel_rfl) (by kernel_rfl) rfl (O0 := []) 1 2 (a0q rfl) (by rfl) (by repeat (first | exact BndH.nil | refine BndH.chn ?_)) (by repeat (first | exact BndH.nil | refine BndH.chn ?_)) (by rfl) fun γ => ?_
 show Ex Tryz.prog _ _ [(0, .ptr 0 (γ 0) 0), (1, .agg (a3n c p))] [(0, ((γ 0), .chn 256 259 ((ps).map (a3n c)))), (2, (0, .dead)), (1, (0, .dead))] _
 refine e7b (e5n 0 rfl fun b0 bs hbl hbn => ?_)
 have hbl2 : bs.length = ps.length := by rw [hbl, List.length_map]
 refine exR (u2u (id := 1) rfl rfl rfl (exR (x5x rfl a0g rfl rfl rfl (rlB d2p f0j ?_))))
 refine u2u (id := 2) rfl rfl rfl (x0x rfl (x2x fun K1 hK1 => ?_))
 refine d8g 4 0 2 rfl rfl (by intro h; cases h) rfl rfl rfl fun bn hbn2 => ?_
 refine exA 3 rfl rfl ?_
 refine c5s r6r (out := .pv (b3u bs.getLast?)) rfl b1f rfl rfl ?_
 refine c0n rfl rfl (by intro a c h h2; cases h; cases h2; rfl) (.inl rfl) (d7w (by kernel_rfl) _ _ _) ?_
 refine x7x rfl ?_ ?_<;>intro hc2<;>try simp at hc2
 ·obtain rfl : bs = [] := by cases bs with | nil => rfl | cons b r => (simp [List.getLast?_cons, a6p] at hc2)
  obtain rfl : ps = [] := List.eq_nil_of_length_eq_zero (by simpa using hbl2.symm)
  refine exG (x1x 4 rfl rfl (c0s r6r rfl rfl b1f rfl rfl rfl rfl rfl (hK1 _ _ (exG (x1x 4 rfl rfl (c0s r6r rfl rfl b1f rfl rfl rfl rfl rfl (Conv.step (c5q 0 b0 256 259 ([bn]) ([a3n c p]) rfl rfl rfl) (Conv.done ?_))))))))
  exact ⟨.inl rfl, [γ 0], rfl, rfl, hv⟩
 obtain ⟨bs0, bl, rfl⟩ := d8e (l := bs) hc2
 obtain ⟨ps0, pl, rfl⟩ := d8e (l := ps) (by rintro rfl; simp at hbl2)
 refine exG (x4x rfl (f0l rfl rfl (y1y rfl e5i rfl rfl b1f rfl rfl ?_)))
 refine c5s r6r (out := PQ bl 0) rfl b1f rfl (by rw [List.getLast?_concat]; rfl) ?_
 refine x4x rfl ?_
 refine d0x rfl ?_
 refine a7i r6r rfl d2p rfl rfl b1f rfl ?_
 refine d8h r6r (bty := 259) ((b0, 256, [.pv (b3u (bs0 ++ [bl]).head?), .pv (b3u (bs0 ++ [bl]).getLast?)]) :: d0e 259 (some bl) bs0 (ps0.map (a3n c))) [(bn, 259, a3n c p ++ [.pv (.pointer none)])] (cs := a3n c pl ++ [.pv (.pointer none)]) 0 rfl rfl b1f rfl rfl rfl (by rw [chB, List.map_append, List.map_cons, List.map_nil, c8j (by rw [List.length_map]; simpa using hbl2)]; simp [b3u]) (a0q rfl) rfl ?_
 refine hK1 _ _ (exG (x1x 4 rfl rfl (c0s r6r rfl rfl b1f rfl rfl rfl rfl rfl ?_)))
 refine Conv.step (c5q 0 b0 256 259 (bs0 ++ [bl] ++ [bn]) (((ps0 ++ [pl]) ++ [p]).map (a3n c)) rfl (by simp at hbl2 ⊢; exact hbl2) (by rw [List.map_append, List.map_cons (l := []), List.map_nil, e2v (by rw [List.length_map]; exact hbl2), List.map_append, List.map_cons, List.map_nil, c8j (by rw [List.length_map]; simpa using hbl2)]; cases bs0 <;> simp [b3u] <;> rfl)) (Conv.done ?_)
 exact ⟨.inl rfl, [γ 0], rfl, rfl, hv⟩
theorem c3m (c : Bool) (l : List Pa) : Meth Tryz.prog 131 1 [] [b5s c l] [(0, (0, .dead))] (.ptr 0 0 0) [(0, (0, .chn 256 259 ((l).map (a3n c))))] := by
 refine mX Tryz.f131 [.ptr 0 0 0] 1 1 fun γ => ?_
 refine r1r 0 rfl fun hlen => ?_
 refine exR (x0x rfl (exR (rlB e5i f0i ?_)))
 refine u2u (id := 0) rfl rfl rfl (x0x rfl (x2x fun K1 hK1 => ?_))
 refine exR (x4x rfl (z3z rfl r9r rfl (x4x rfl (y0y (d8f 0 259 rfl ?_)))))
 refine z2z (ι := Nat) (fun i γ1 => [(10, pI (i : Int))]) (fun i γ1 => [(0, ((γ 0 + 1), .chn 256 259 ((l.take i).map (a3n c)))), (1, ((γ1 1), .dead))]) (fun i => i ≤ l.length) (fun i => l.length - i) (cK [3, 8, 9] rfl) HE.nil 0 (by omega) [0, _] cv (HE.chn rfl (by rw [List.take_zero]; rfl) (HE.kill rfl HE.nil)) rfl fun i γ1 hi => ?_
 refine exR (v6v rfl rfl rfl (x2x fun K2 hK2 => ?_))
 refine y4y rfl ?_ ?_<;>intro o<;>try simp at o
 ·obtain rfl : i = l.length := by omega
  refine z4z (hK1 _ _ (exA 2 rfl rfl (x6x ?_)))
  rw [List.take_length]
  exact ⟨.inr rfl, [_], rfl, rfl, hv⟩
 obtain ⟨p, hp⟩ := gE l i
 refine x8x (hK2 _ _ (x2x fun K4 hK4 => ?_))
 refine y0y (exR (y7y rfl rfl r9r rfl a0g rfl (by assumption) ?_))
 refine u5u rfl a0g rfl rfl (y6y (id := 1) a0g c5i rfl (x3x rfl rfl a0g rfl rfl rfl rfl (exG (x1x 2 rfl rfl ?_))))
 refine rlM [0] [_] (b9i c p (l.take i)) rfl rfl rfl ?_
 refine hK4 _ _ (exG (z5z (b := 1) rfl rfl (by omega) (x4x rfl ?_)))
 exact ⟨i + 1, ⟨by omega, by omega⟩, [0, _], cv, cv, (HE.chn rfl (by rw [w1w hp]) (HE.kill rfl HE.nil)), hv, rfl⟩
theorem b2u (c c' : Bool) (ps : List Pa) (s : List Ev) : Meth Tryz.prog 132 1 [0] [.ptr 0 0 0, a2e c' s] [(0, (0, .chn 256 259 ((ps).map (a3n c))))] (.pv (.int .i64 (same ps s : Int))) [] := by
 refine mX Tryz.f132 [.pv (.int .i64 (same ps s : Int))] 1 0 fun γ => ?_
 refine r1r 1 rfl fun hlen => ?_
 refine e5n 0 rfl fun b0 bs hbl hbn => ?_
 have hbl2 : bs.length = ps.length := by rw [hbl, List.length_map]
 refine exR (x0x rfl (exR (x0x rfl (x2x fun K1 hK1 => ?_))))
 refine exA 3 rfl rfl ?_
 refine c5s r6r (out := .pv (b3u bs.head?)) rfl b1f rfl rfl ?_
 refine x0x rfl (y0y ?_)
 refine z2z (ι := Nat) (fun i γ1 => [(5, pI (i : Int)), (6, .pv (b3u bs[i]?))]) (fun i γ1 => []) (fun i => i ≤ ps.length ∧ i ≤ s.length ∧ same ps s = i + same (ps.drop i) (s.drop i)) (fun i => ps.length - i) (y3y 1 rfl Cov.nil) (y8y 0 rfl HE.nil) 0 ⟨by omega, by omega, by rw [List.drop_zero, List.drop_zero, Nat.zero_add]⟩ [] (y3y 5 rfl (Cov.cons' (t := 6) rfl ((by rw [List.head?_eq_getElem?])) Cov.nil)) hv rfl fun i γ1 hi => ?_
 obtain ⟨h1, h2, h3⟩ := hi
 refine x2x fun K2 hK2 => ?_
 refine exD (x4x rfl (c0n rfl rfl (by intro a c h h2; cases h; cases h2; rfl) (.inr rfl) (d7w (by kernel_rfl) _ _ _) ?_))
 refine x4x rfl (z9z rfl rfl ?_ ?_)<;>intro o<;>try simp at o
 ·have g1 : ps.length ≤ i := by omega
  refine x1x 16 rfl rfl ⟨by kernel_rfl, x7x rfl (fun hc8 => ?_) (fun hc8 => ?_)⟩
  ·simp at hc8
  try simp at hc8
  try have heq : ¬ p.ev = e := by simpa [a6p] using hc8
  refine z4z (hK1 _ _ (exA 2 rfl rfl (c5r 0 b0 256 259 (bs) (ps.map (a3n c)) rfl hbl rfl ?_)))
  refine x6x ?_
  refine ⟨.inr rfl, [γ 0], rfl, ?_, HE.same rfl HE.nil⟩
  exact congrArg (fun v : Nat => some [AV.pv (.int .i64 (v : Int))]) (h3.trans (by rw [c8v g1]; rfl)).symm
 obtain ⟨b, hb⟩ := gE bs i
 rw [hb]
 have g1 : i < ps.length := by have := (List.getElem?_eq_some_iff.1 hb).1; omega
 obtain ⟨p, hp⟩ := gE ps i
 refine x1x 2 rfl rfl (z1z rfl rfl (z3z rfl u8u rfl (x1x 3 rfl rfl (z9z rfl rfl ?_ ?_))))<;>intro o<;>try simp at o
 ·have g2 : s.length ≤ i := by omega
  refine x1x 10 rfl rfl ⟨by kernel_rfl, x7x rfl (fun hc7 => ?_) (fun hc7 => ?_)⟩
  ·simp at hc7
  try simp at hc7
  try have heq : ¬ p.ev = e := by simpa [a6p] using hc7
  refine z4z (hK1 _ _ (exA 2 rfl rfl (c5r 0 b0 256 259 (bs) (ps.map (a3n c)) rfl hbl rfl ?_)))
  refine x6x ?_
  refine ⟨.inr rfl, [γ 0], rfl, ?_, HE.same rfl HE.nil⟩
  exact congrArg (fun v : Nat => some [AV.pv (.int .i64 (v : Int))]) (h3.trans (by rw [c8w g2]; rfl)).symm
 have g2 : i < s.length := by omega
 obtain ⟨e, he⟩ := gE s i
 refine x4x rfl (z1z rfl rfl (d0x rfl (z1z rfl rfl (a7i r6r rfl d2p rfl rfl a0g rfl (z1z rfl rfl (a7i r6r rfl a0g rfl rfl z6z rfl (z1z rfl rfl ?_)))))))
 refine d2z r6r (out := .agg (v5v p.ev)) 0 rfl z6z rfl (d8c hbl hb (d9s hp)) rfl ?_
 refine x1x 2 rfl rfl (z1z rfl rfl (y7y rfl rfl u8u rfl z6z rfl he (z1z rfl rfl ?_)))
 refine w4w (out := .agg (v5v e)) rfl z6z rfl ?_
 refine z1z rfl rfl (c0n rfl rfl (by intro a c h; cases h) (.inl rfl) (e8f _ _ _ _) ?_)
 refine a8r rfl rfl ⟨by kernel_rfl, y4y rfl ?_ ?_⟩<;>intro hc5<;>try simp at hc5
 ·try have heq : ¬ p.ev = e := by simpa [a6p] using hc5
  refine z4z (hK1 _ _ (exA 2 rfl rfl (c5r 0 b0 256 259 (bs) (ps.map (a3n c)) rfl hbl rfl ?_)))
  refine x6x ?_
  refine ⟨.inr rfl, [γ 0], rfl, ?_, HE.same rfl HE.nil⟩
  exact congrArg (fun v : Nat => some [AV.pv (.int .i64 (v : Int))]) (h3.trans (by rw [c8u hp he heq]; rfl)).symm
 try have heq : p.ev = e := by simpa [a6p] using hc5
 refine x8x (hK2 _ _ (x2x fun K6 hK6 => ?_))
 refine y0y (exG (x4x rfl (z5z (b := 1) rfl rfl (by omega) (x0x rfl (hK6 _ _ (exG (x4x rfl (d0x rfl (a7i r6r rfl d2p rfl rfl b1f rfl ?_)))))))))
 refine d2z r6r (out := .pv (b3u bs[i + 1]?)) 0 rfl b1f rfl (d8c hbl hb (d9s hp)) rfl ?_
 refine x0x rfl ?_
 exact ⟨i + 1, ⟨⟨by omega, by omega, by rw [h3, c8t hp he heq]; omega⟩, by omega⟩, [], cv, cv, hv, hv, rfl⟩
end
section
theorem b7c (c : Bool) (n : Nd) : a1r Tryz.prog 38 [.agg (w5w c n)] (.pv (.bool (kb (z7z n)))) := by
 refine pX Tryz.f38 [.pv (.bool (kb (z7z n)))] 8 ?_
 have hpl := a5s n.id 4
 refine exR (u2u (id := 0) rfl rfl rfl (x0x rfl (x2x fun K1 hK1 => ?_)))
 refine exR (x5x rfl y5y rfl rfl rfl (x9x rfl rfl rfl (c3l ..) (a1s rfl (x7x rfl ?_ ?_))))<;>intro hc2<;>try simp at hc2
 ·try have hX : ¬ a2k n := a0k (by simpa using hc2)
  refine exR (x0x rfl (x6x ⟨.inr rfl, ?_⟩))
  refine y9y rfl ?_ rfl
  exact congrArg (fun b : Bool => [AV.pv (.bool b)]) (a5l (fun h => hX h.1))
 have fS : a2k n := a1o.1 (by simpa using hc2)
 have fB := q5q fS
 have fL := fS.2.2.2.2.1
 have fV := fS.2.2.2.2.2.1
 refine x8x (hK1 _ _ (exR (x5x rfl y5y rfl rfl rfl ?_)))
 refine rlM [1, 2, 3, 4, 5] [_, _, _, _, _] (b6z c n (by omega) (by omega) fS.2.2.2.2.2.2.1) rfl rfl rfl ?_
 refine x0x rfl (x2x fun K3 hK3 => ?_)
 refine exA 2 rfl rfl (x9x rfl rfl rfl (b4g ..) (z3z rfl q2q rfl (x4x rfl (y0y ?_))))
 refine z2z (ι := Nat) (fun j γ1 => [(16, pI (j : Int))]) (fun j γ1 => [(6, ((γ1 6), .dead)), (7, ((γ1 7), .dead))]) (fun j => j ≤ (s2s n.id 4).length ∧ c7i n.lanes (fun j l => ∀ p, (s2s n.id 4)[j]? = some p → l.done.length ≤ same l.done (a1x n p) ∧ (a1x n p).length ≤ 100) j) (fun j => (s2s n.id 4).length - j) (cK [3, 14, 15] rfl) (hK [0, 1, 2, 3, 4, 5] rfl) 0 ⟨by omega, a2i⟩ [0, 0, 0, 0, 0, 0, _, _] cv hv rfl fun j γ1 hi => ?_
 obtain ⟨d1, d2⟩ := hi
 refine exR (v6v rfl rfl rfl (x2x fun K4 hK4 => ?_))
 refine y4y rfl ?_ ?_<;>intro o<;>try simp at o
 ·have fC := fun (i : Nat) p l (a : (s2s n.id 4)[i]? = some p) (b : n.lanes[i]? = some l) => a3q d2 (by omega) i l b p a
  refine z4z (hK3 _ _ (exR (x0x rfl (x6x ⟨.inr rfl, ?_⟩))))
  refine y9y rfl ?_ rfl
  exact congrArg (fun b : Bool => [AV.pv (.bool b)]) (e1v ⟨fS, fC⟩)
 obtain ⟨l, hl⟩ := gE n.lanes j
 obtain ⟨p, hp⟩ := gE (s2s n.id 4) j
 obtain ⟨hdl, _⟩ := a2p (fS.2.2.2.2.2.2.2.1 j l hl).2
 refine x8x (hK4 _ _ (x2x fun K6 hK6 => ?_))
 refine y0y (exR (x4x rfl (y7y rfl rfl q2q rfl q1q rfl hp (x1x 3 rfl rfl (exA 2 rfl rfl ?_)))))
 refine rlM [1, 2, 3, 4, 5, 6] [_, _, _, _, _, _] (b1j c n p (a7v fS) (by omega) fS.2.2.2.2.2.1) rfl rfl rfl ?_
 refine x0x rfl (a0l 6 rfl rfl (fun _ => rfl) ?_)
 refine exD (x4x rfl (z3z rfl u8u rfl (x1x 2 rfl rfl (z9z rfl rfl ?_ ?_))))<;>intro o<;>try simp at o
 ·refine x1x 19 rfl rfl ⟨by kernel_rfl, x7x rfl (fun hc9 => ?_) (fun hc9 => ?_)⟩
  rotate_left
  ·simp at hc9
  try simp at hc9
  refine exR (x0x rfl (x6x ⟨.inr rfl, ?_⟩))
  refine y9y rfl ?_ rfl
  exact congrArg (fun b : Bool => [AV.pv (.bool b)]) (a5l (fun h => by have := h.2 _ _ _ hp hl; omega))
 refine x1x 5 rfl rfl (z1z rfl rfl ?_)
 refine v0v (j := j) rfl rfl c0k rfl r9r rfl rfl (v1v hl) ?_
 refine z1z rfl rfl (a0x rfl r9r rfl hl rfl (z1z rfl rfl ?_))
 refine rlM [7] [_] (c3m c l.done) rfl rfl rfl ?_
 refine z1z rfl rfl (x4x rfl (z1z rfl rfl ?_))
 refine rlM [7] [_] (b2u c true l.done (a1x n p)) rfl rfl rfl ?_
 refine x1x 5 rfl rfl (z1z rfl rfl ?_)
 refine v0v (j := j) rfl rfl c0k rfl r9r rfl rfl (v1v hl) ?_
 refine z1z rfl rfl (a0x rfl r9r rfl hl rfl (z1z rfl rfl (z3z rfl r9r rfl (x1x 2 rfl rfl ⟨by kernel_rfl, y4y rfl ?_ ?_⟩))))<;>intro o<;>try simp at o
 ·refine x8x (hK6 _ _ (exG (z5z (b := 1) rfl rfl (by omega) (x4x rfl ?_))))
  exact ⟨j + 1, ⟨⟨by omega, a0i d2 hl (fun p2 hp2 => by rw [hp] at hp2; cases hp2; omega)⟩, by omega⟩, [0, 0, 0, 0, 0, 0, _, _], cv, cv, hv, hv, rfl⟩
 refine exR (x0x rfl (x6x ⟨.inr rfl, ?_⟩))
 refine y9y rfl ?_ rfl
 exact congrArg (fun b : Bool => [AV.pv (.bool b)]) (a5l (fun h => by have := h.2 _ _ _ hp hl; omega))
end
section
structure Op_ where
 do' : Int
 a : Int
 b : Int
 c : Int
 d : Int
 deriving DecidableEq, Inhabited
structure Ru where
 kind : Int
 ops : List Op_
 deriving DecidableEq, Inhabited
structure Ap where
 rules : List Ru
 deriving DecidableEq, Inhabited
structure Hb where
 round : Int
 ones : List Wo
 twos : List Wo
 outs : List Wo
 deriving DecidableEq, Inhabited
structure Tw where
 time : Int
 apps : List Ap
 nodes : List Nd
 radio : List Wo
 hub : Hb
 sink : List Ou
 deriving DecidableEq, Inhabited
def hb0 : Hb := ⟨0, [], [], []⟩
def a3w (v : Int) : Prop := 0 ≤ v ∧ v ≤ 1
def b4k (v : Int) : Prop := 0 ≤ v ∧ v ≤ 999
instance (v : Int) : Decidable (a3w v) := by unfold a3w; infer_instance
instance (v : Int) : Decidable (b4k v) := by unfold b4k; infer_instance

def b0x (o : Op_) : Prop :=
 ((o.do' = 1 ∨ o.do' = 3) ∧ a3w o.a ∧ b4k o.b ∧ o.c = 0 ∧ o.d = 0) ∨ (o.do' = 2 ∧ a3w o.a ∧ a3w o.b ∧ o.c = 0 ∧ o.d = 0) ∨
 ((o.do' = 4 ∨ o.do' = 7) ∧ a3w o.a ∧ o.b = 0 ∧ o.c = 0 ∧ o.d = 0) ∨ (o.do' = 5 ∧ a3w o.a ∧ b4k o.b ∧ (1 ≤ o.c ∧ o.c ≤ 8) ∧ o.d = 0) ∨
 (o.do' = 6 ∧ (0 ≤ o.a ∧ o.a ≤ 3) ∧ (0 ≤ o.b ∧ o.b ≤ 3) ∧ (1 ≤ o.c ∧ o.c ≤ 40) ∧ a3w o.d)
instance (o : Op_) : Decidable (b0x o) := by unfold b0x; infer_instance
def c4w (l : List Op_) : Nat := (l.filter fun o => decide (o.do' = 6)).length
def d5o (l : List Op_) : Nat := (l.filter fun o => decide (o.do' = 7)).length
def c7j (r : Ru) : Prop := (∀ o ∈ r.ops, b0x o) ∧ r.ops.length ≤ 8 ∧ c4w r.ops ≤ 2 ∧ d5o r.ops ≤ 2

def f3m (l : List Ru) : Prop := ∀ (i : Nat) r, l[i]? = some r → (0 ≤ r.kind ∧ r.kind ≤ 3) ∧ c7j r ∧ ∀ p, 0 < i → l[i - 1]? = some p → p.kind < r.kind
def e0j (a : Ap) : Prop := a.rules.length ≤ 4 ∧ f3m a.rules
def a6w (l : List Ap) : Prop := l.length = 4 ∧ ∀ a ∈ l, e0j a
def a9j (k : Nat) : List Nd := (List.range k).map fun (i : Nat) => a2n (i : Int)
theorem c9m (k : Nat) : a9j (k + 1) = a9j k ++ [a2n (k : Int)] := by simp [a9j, List.range_succ]
theorem b0y (l : List Op_) (o : Op_) : c4w (l ++ [o]) = c4w l + if o.do' = 6 then 1 else 0 := by
 unfold c4w
 rw [List.filter_append, List.length_append]
 by_cases h : o.do' = 6 <;> simp [h]
theorem b3s (l : List Op_) (o : Op_) : d5o (l ++ [o]) = d5o l + if o.do' = 7 then 1 else 0 := by
 unfold d5o
 rw [List.filter_append, List.length_append]
 by_cases h : o.do' = 7 <;> simp [h]
theorem d1q (l : List Op_) (i : Nat) : c4w (l.take i) ≤ i := Nat.le_trans (List.length_filter_le _ _) (by rw [List.length_take]; omega)
theorem d5p (l : List Op_) (i : Nat) : d5o (l.take i) ≤ i := Nat.le_trans (List.length_filter_le _ _) (by rw [List.length_take]; omega)
end
section
def opL (o : Op_) : List Int := [o.do', o.a, o.b, o.c, o.d]
def b7d (o : Op_) : List AV := (opL o).map pI
def f2l (c : Bool) (l : List Op_) : AV := .row (.rd c) 297 5 (l.map b7d)
def d1r (c : Bool) (r : Ru) : List AV := [pI r.kind, f2l c r.ops]
def e8q (c : Bool) (l : List Ru) : AV := .row (.rd c) 232 2 (l.map (d1r c))
def b9j (c : Bool) (a : Ap) : List AV := [e8q c a.rules]
def a6b (c : Bool) (l : List Ap) : AV := .row (.rd c) 121 1 (l.map (b9j c))
def f3z (c : Bool) (l : List Nd) : AV := .row (.rd c) 65 13 (l.map (w5w c))
def e4a (c : Bool) (w : Tw) : List AV := [pI w.time, a6b c w.apps, f3z c w.nodes, q3q c w.radio, pI w.hub.round, q3q c w.hub.ones, q3q c w.hub.twos, q3q c w.hub.outs, a0t c w.sink]
end
section

def c3n (l : List Int) : Prop := (l.length = 0 ∨ l.length = 3) ∧ ∀ v ∈ l, 0 ≤ v ∧ v ≤ 9999
instance (l : List Int) : Decidable (c3n l) := by unfold c3n; infer_instance
def a5u (w : Wo) : Prop := (1 ≤ w.kind ∧ w.kind ≤ 7) ∧ (0 ≤ w.from' ∧ w.from' ≤ 2) ∧ (0 ≤ w.to ∧ w.to ≤ 2) ∧ (0 ≤ w.inc ∧ w.inc ≤ 9999) ∧ (0 ≤ w.version ∧ w.version ≤ 9999) ∧ (0 ≤ w.round ∧ w.round ≤ 9999) ∧ (0 ≤ w.g ∧ w.g ≤ 41)
instance (w : Wo) : Decidable (a5u w) := by unfold a5u; infer_instance
def a4l (w : Wo) : Prop := a5u w ∧ c3n w.incs ∧ c3n w.versions ∧ a7k okE a2z w.events 100 = true ∧ a7k okO b0r w.outs 96 = true
instance (w : Wo) : Decidable (a4l w) := by unfold a4l; infer_instance

def b1t (l : List Wo) (kind : Int) : Prop := ∀ (i : Nat) w, l[i]? = some w → a4l w ∧ w.kind = kind ∧ ∀ p, 0 < i → l[i - 1]? = some p → p.from' < w.from'
def a8m (w : Wo) : Prop := w.incs.length = 3 ∧ w.versions.length = 3
def a0r (h : Hb) : Prop := (0 ≤ h.round ∧ h.round ≤ 9999) ∧ b1t h.ones 3 ∧ b1t h.twos 5 ∧ b1t h.outs 7 ∧ ∀ w ∈ h.ones, a8m w
theorem d3u (h : b1t l k) : ∀ (i : Nat) w, l[i]? = some w → (i : Int) ≤ w.from'
 | 0, w, hw => by have := (h 0 w hw).1.1.2.1.1; omega
 | i + 1, w, hw => by
  obtain ⟨p, hp⟩ : ∃ p, l[i]? = some p := ⟨_, List.getElem?_eq_getElem (by have := (List.getElem?_eq_some_iff.1 hw).1; omega)⟩
  have h1 := d3u h i p hp
  have h2 := (h (i + 1) w hw).2.2 p (by omega) (by simpa using hp)
  omega
theorem b5m (h : b1t l k) : l.length ≤ 3 := by
 rcases Nat.lt_or_ge 3 l.length with hl | hl
 ·obtain ⟨w, hw⟩ : ∃ w, l[3]? = some w := ⟨_, List.getElem?_eq_getElem (by omega)⟩
  have h1 := d3u h 3 w hw
  have := (h 3 w hw).1.1.2.1.2
  omega
 ·exact hl
theorem c6x (k : Int) : b1t [] k := fun i w h => by simp at h

def wob (w : Wo) : Prop := w.incs.length ≤ 1000000 ∧ w.versions.length ≤ 1000000 ∧ w.events.length ≤ 1000000 ∧ w.outs.length ≤ 1000000
theorem c9n (h : a4l w) : wob w := by
 obtain ⟨_, h1, h2, h3, h4⟩ := h
 have h3 := (s7s h3).1
 have h4 := (s7s h4).1
 have h1 := h1.1
 have h2 := h2.1
 exact ⟨by omega, by omega, by omega, by omega⟩

def a6x (x : Wo) (again : Bool) : List Wo → Bool → List Wo
 | [], done => if done then [] else [x]
 | w :: r, done =>
  if w.from' = x.from' then (if again then x :: a6x x again r true else w :: a6x x again r true)
  else if done = false ∧ x.from' < w.from' then x :: w :: a6x x again r true else w :: a6x x again r done
def b5n (f : Int) (l : List Wo) : Option Wo := l.find? fun w => decide (w.from' = f)
def e1x (w : Wo) : List Wo := [{ w with to := 1 }, { w with to := 2 }]
def f4a (n : Nd) : Wo := { wo0 with kind := 5, from' := n.id, inc := n.inc, round := n.round, version := n.version }

def b0g (n : Nd) (w : Wo) : Prop := n.up = true ∧ a4l w ∧ w.to = n.id ∧ ¬ w.from' = n.id
instance (n : Nd) (w : Wo) : Decidable (b0g n w) := by unfold b0g; infer_instance
noncomputable def b0h (n : Nd) (w : Wo) : Nd × List Wo :=
 if w.kind = 1 then (a4f n w.from' w.inc w.version w.g w.events, [])
 else if w.kind = 2 then (if (w6w n w.round).2.2 = true then ((w6w n w.round).1, [(w6w n w.round).2.1]) else (n, []))
 else if w.kind = 4 then (n, if w.round = n.round ∧ 0 < w.round then [f4a n] else [])
 else if w.kind = 6 then (if w.inc = n.inc then ((s8s n w.round w.g).1, []) else (n, []))
 else (n, [])
open Classical in
noncomputable def r2r (n : Nd) (w : Wo) : Nd × List Wo := if z7z n then (if b0g n w then b0h n w else (n, [])) else (nd0, [])
theorem f1h (h : ¬ z7z n) : r2r n w = (nd0, []) := if_neg h
theorem d3v (h : z7z n) (h2 : ¬ b0g n w) : r2r n w = (n, []) := by unfold r2r; rw [if_pos h, if_neg h2]
theorem b7e (h : z7z n) (h2 : b0g n w) : r2r n w = b0h n w := by unfold r2r; rw [if_pos h, if_pos h2]
theorem e8r (h : w.kind = 1) : b0h n w = (a4f n w.from' w.inc w.version w.g w.events, []) := if_pos h
theorem e4b (h : w.kind = 2) (h2 : (w6w n w.round).2.2 = true) : b0h n w = ((w6w n w.round).1, [(w6w n w.round).2.1]) := by unfold b0h; rw [if_neg (by omega), if_pos h, if_pos h2]
theorem e4c (h : w.kind = 2) (h2 : ¬ (w6w n w.round).2.2 = true) : b0h n w = (n, []) := by unfold b0h; rw [if_neg (by omega), if_pos h, if_neg h2]
theorem e4d (h : w.kind = 4) (h2 : w.round = n.round ∧ 0 < w.round) : b0h n w = (n, [f4a n]) := by unfold b0h; rw [if_neg (by omega), if_neg (by omega), if_pos h, if_pos h2]
theorem d3w (h : w.kind = 4) (h2 : ¬ (w.round = n.round ∧ 0 < w.round)) : b0h n w = (n, []) := by unfold b0h; rw [if_neg (by omega), if_neg (by omega), if_pos h, if_neg h2]
theorem e4f (h : w.kind = 6) (h2 : w.inc = n.inc) : b0h n w = ((s8s n w.round w.g).1, []) := by unfold b0h; rw [if_neg (by omega), if_neg (by omega), if_neg (by omega), if_pos h, if_pos h2]
theorem e4g (h : w.kind = 6) (h2 : ¬ w.inc = n.inc) : b0h n w = (n, []) := by unfold b0h; rw [if_neg (by omega), if_neg (by omega), if_neg (by omega), if_pos h, if_neg h2]
theorem e8s (h1 : ¬ w.kind = 1) (h2 : ¬ w.kind = 2) (h4 : ¬ w.kind = 4) (h6 : ¬ w.kind = 6) : b0h n w = (n, []) := by unfold b0h; rw [if_neg h1, if_neg h2, if_neg h4, if_neg h6]

def c9o (n : Nd) : Nd := { n with led := n.led + 1 }
def f4b (r : Int) : Wo := { wo0 with kind := 2, round := r }
def e8t (r : Int) : Wo := { wo0 with kind := 4, round := r }
def a5b (n : Nd) : Prop := n.id = 0 ∧ n.up = true ∧ n.led < 9999 ∧ n.round < n.led + 1
instance (n : Nd) : Decidable (a5b n) := by unfold a5b; infer_instance
open Classical in
noncomputable def r8r (h : Hb) (n : Nd) : Hb × Nd × List Wo :=
 if a0r h ∧ z7z n then (if a5b n then (⟨n.led + 1, [d9b (c9o n) (n.led + 1)], [], h.outs⟩, { c9o n with round := n.led + 1, low := 41 }, e1x (f4b (n.led + 1))) else (h, n, [])) else (hb0, nd0, [])
theorem e0k (k : ¬ (a0r h ∧ z7z n)) : r8r h n = (hb0, nd0, []) := if_neg k
theorem c1z (k : a0r h ∧ z7z n) (k2 : ¬ a5b n) : r8r h n = (h, n, []) := by unfold r8r; rw [if_pos k, if_neg k2]
theorem d1s (k : a0r h ∧ z7z n) (k2 : a5b n) : r8r h n = (⟨n.led + 1, [d9b (c9o n) (n.led + 1)], [], h.outs⟩, { c9o n with round := n.led + 1, low := 41 }, e1x (f4b (n.led + 1))) := by unfold r8r; rw [if_pos k, if_pos k2]
theorem d3x (h : z7z n) (h2 : n.led < 9999) : z7z (c9o n) := by
 obtain ⟨⟨hn, h3⟩, h4⟩ := h
 exact ⟨⟨⟨hn.1, hn.2.1, hn.2.2.1, ⟨by show 0 ≤ n.led + 1; have := hn.2.2.2.1; omega, by show n.led + 1 ≤ 9999; omega⟩, hn.2.2.2.2⟩, h3⟩, h4⟩

def e0l (h : Hb) (i : Nat) : Prop := ∀ a b, h.ones[i]? = some a → h.twos[i]? = some b → a.inc = b.inc ∧ ∀ (k : Nat) c, k ≠ i → h.ones[k]? = some c → c.incs.getD i 0 = b.inc ∧ c.versions.getD i 0 = b.version
def a7g (h : Hb) : Prop := a0r h ∧ h.ones.length = 3 ∧ h.twos.length = 3 ∧ ∀ i, i < 3 → e0l h i
def a2b (m : Int) (l : List Wo) : Int := l.foldl (fun m w => if w.g < m then w.g else m) m
theorem c2a {m : Int} {l : List Wo} {i : Nat} {w : Wo} (h : l[i]? = some w) : a2b m (l.take (i + 1)) = if w.g < a2b m (l.take i) then w.g else a2b m (l.take i) := by
 unfold a2b
 rw [w1w h, List.foldl_append]; rfl
open Classical in
noncomputable def s3s (h : Hb) : Int × Bool := if a7g h then (a2b 41 h.ones, true) else (0, false)
theorem b5o (k : ¬ a7g h) : s3s h = (0, false) := if_neg k
theorem e8u (k : a7g h) : s3s h = (a2b 41 h.ones, true) := if_pos k
def c6y (h : Hb) (g : Int) (to : Nat) : Wo := { wo0 with kind := 6, to := (to : Int), inc := ((h.twos.map Wo.inc).getD to 0), round := h.round, g := g }
def a1v (n : Nd) (w : Wo) : Prop := n.id = 0 ∧ n.up = true ∧ a4l w ∧ w.to = 0 ∧ ¬ w.from' = 0
instance (n : Nd) (w : Wo) : Decidable (a1v n w) := by unfold a1v; infer_instance
def a4d (h : Hb) (w : Wo) : Bool := match b5n w.from' h.outs with
 | none => true
 | some old => decide (old.g < w.g)
def d5q (h : Hb) (w : Wo) : Prop := w.round = h.round ∧ ¬ w.incs.length = 0 ∧ ¬ w.versions.length = 0 ∧ h.ones.length < 3
instance (h : Hb) (w : Wo) : Decidable (d5q h w) := by unfold d5q; infer_instance
def e1y (h : Hb) (w : Wo) : Prop := w.round = h.round ∧ 3 ≤ h.ones.length ∧ h.twos.length < 3
instance (h : Hb) (w : Wo) : Decidable (e1y h w) := by unfold e1y; infer_instance
def d3y (h : Hb) (w : Wo) : Hb := { h with ones := a6x w false h.ones false }
def b0i (h : Hb) (w : Wo) : Hb := { h with twos := a6x w false h.twos false }
def f2m (h : Hb) (n : Nd) : Wo := { wo0 with kind := 5, inc := n.inc, round := h.round, version := n.version }
noncomputable def a1b (h : Hb) (n : Nd) (w : Wo) : Hb × Nd × List Wo :=
 if w.kind = 7 then (if a4d h w = true then { h with outs := a6x w true h.outs false } else h, n, [])
 else if w.kind = 3 then (if d5q h w then (if (d3y h w).ones.length = 3 then ({ d3y h w with twos := [f2m h n] }, n, e1x (e8t h.round)) else (d3y h w, n, [])) else (h, n, []))
 else if w.kind = 5 then (if e1y h w then (if (s3s (b0i h w)).2 = true then (b0i h w, (s8s n h.round (s3s (b0i h w)).1).1, [c6y (b0i h w) (s3s (b0i h w)).1 1, c6y (b0i h w) (s3s (b0i h w)).1 2]) else (b0i h w, n, [])) else (h, n, []))
 else (h, n, [])
open Classical in
noncomputable def p6p (h : Hb) (n : Nd) (w : Wo) : Hb × Nd × List Wo := if a0r h ∧ z7z n then (if a1v n w then a1b h n w else (h, n, [])) else (hb0, nd0, [])
open Classical in
noncomputable def a8e (h : Hb) (n : Nd) : List Ou := if a0r h ∧ z7z n ∧ n.id = 0 ∧ h.outs.length = 2 then a1n ((n.outs ++ h.outs.flatMap Wo.outs).filter fun o => decide (o.time < a2b n.g h.outs)) else []
end
section
theorem c9p (h : z7z n) : z7z (b0u n m).1 := by
 by_cases k : z7z m
 ·rw [c1p k]; exact k
 ·rw [c1q k]; exact h
theorem e8v (h : z7z n) (f inc ver g : Int) (es : List Ev) : z7z (a4f n f inc ver g es) := by
 unfold a4f
 rw [if_pos h]
 split
 ·exact c9p h
 ·exact h
theorem c9q (h : z7z n) (r g : Int) : z7z (s8s n r g).1 := by
 unfold s8s
 rw [if_pos h]
 split
 ·exact c9p h
 ·exact h
theorem d3z (h : z7z n) (hr : 0 ≤ r ∧ r ≤ 9999) : z7z { n with round := r, low := 41 } := by
 obtain ⟨⟨hn, h3⟩, h4⟩ := h
 exact ⟨⟨⟨hn.1, hn.2.1, hn.2.2.1, hn.2.2.2.1, hn.2.2.2.2.1, hr, by show (0 : Int) ≤ 41; omega, by show (41 : Int) ≤ 41; omega⟩, h3⟩, h4⟩
theorem e0m (h : z7z n) (r : Int) : z7z (w6w n r).1 := by
 have hb := h.1.1.2.2.2.2.2.1
 unfold w6w
 rw [if_pos h]
 split
 ·rename_i k; exact d3z h ⟨by omega, k.2.2⟩
 ·exact h
theorem c9r (h : a6t l = true) : (0 ≤ l.proc ∧ l.proc ≤ 3) ∧ c2v l.base := by
 unfold a6t at h
 simp only [Bool.and_eq_true, decide_eq_true_eq] at h
 exact h.1
theorem d5r (h : a6t l = true) : a6t (s5s l) = true := by
 have hb := c9r h
 rw [c6b (l := s5s l) hb.1 hb.2 (Nat.zero_le _)]; rfl
theorem e0n : d3f vi0 := ⟨by decide, by decide, rfl⟩
theorem d4a (h : a2k n) (hd : ∀ l ∈ n.lanes, l.done = []) (hv : n.views = [vi0, vi0, vi0]) : z7z n := by
 refine ⟨h, fun i p l hp hl => ?_⟩
 have kl := (s7s h.2.1).1
 refine ⟨by rw [hd l (List.mem_of_getElem? hl)]; exact Nat.zero_le _, ?_⟩
 have e1 : a1u n = n.kept := by
  show n.kept ++ n.lanes.flatMap b0a = n.kept
  have : n.lanes.flatMap b0a = [] := by
   rw [List.flatMap_eq_nil_iff]
   intro l hl
   unfold b0a
   rw [hd l hl]; rfl
  rw [this, List.append_nil]
 have e2 : a0s n 3 = [] := by
  have : ∀ j, b2g n j = [] := fun j => by
   unfold b2g
   split
   ·rfl
   ·rw [hv]
    match j with
    | 0 => rfl
    | 1 => rfl
    | 2 => rfl
    | j + 3 => rfl
  simp [a0s, this, List.range, List.range.loop]
 have e3 : (a1x n p).length ≤ n.kept.length := by
  unfold a1x
  rw [e1, e2, List.append_nil]
  exact Nat.le_trans (b0c _) (List.length_filter_le _ _)
 omega
theorem f4c (h1 : n.views = [vi0, vi0, vi0]) (h2 : n.known = [0, 0, 0]) : d8s n := fun i v k hi hk => by
 rw [h1] at hi
 rw [h2] at hk
 match i, hi, hk with
 | 0, hi, hk => cases hi; cases hk; exact ⟨e0n, by decide, by decide⟩
 | 1, hi, hk => cases hi; cases hk; exact ⟨e0n, by decide, by decide⟩
 | 2, hi, hk => cases hi; cases hk; exact ⟨e0n, by decide, by decide⟩
 | i + 3, hi, hk => simp at hi
theorem d4b (h : z7z n) (hi : 1 ≤ inc ∧ inc ≤ 9999) (hv : 0 ≤ ver ∧ ver ≤ 9999) : z7z { a2o n with up := u, inc := inc, version := ver } := by
 obtain ⟨⟨hn, hk, ho, ht, hl, hv3, hk3, hls, hvk⟩, h4⟩ := h
 refine d4a ⟨⟨hn.1, hi, hn.2.2.1, hn.2.2.2.1, hv, (show (0 : Int) ≤ 0 ∧ (0 : Int) ≤ 9999 by omega), (show (0 : Int) ≤ 41 ∧ (41 : Int) ≤ 41 by omega)⟩, hk, ho, ht, ?_, rfl, rfl, ?_, f4c rfl rfl⟩ ?_ rfl
 ·show (n.lanes.map s5s).length = _
  rw [List.length_map]; exact hl
 ·intro i l hil
  have hil : (n.lanes.map s5s)[i]? = some l := hil
  rw [List.getElem?_map] at hil
  cases hq : n.lanes[i]? with
  | none => rw [hq] at hil; cases hil
  | some l0 =>
   rw [hq] at hil; cases hil
   obtain ⟨q1, q2⟩ := hls i l0 hq
   exact ⟨q1, d5r q2⟩
 ·intro l hl
  obtain ⟨l0, _, rfl⟩ := List.mem_map.1 (show l ∈ n.lanes.map s5s from hl)
  rfl
theorem e4h (i : Int) (h : 0 ≤ i ∧ i ≤ 2) : z7z (a2n i) := by
 have e : a2n i = ⟨i, true, 1, 0, (s2s i 4).map b1o, (s2s i 4).map a1w, [], 0, 1, [vi0, vi0, vi0], [0, 0, 0], 0, 41⟩ := by
  unfold a2n
  rw [if_pos h, c1a h]
 rw [e]
 have pe : ∀ p ∈ (s2s i 4).map a1w, okE p = true := fun p hp => by
  obtain ⟨q, hq, rfl⟩ := List.mem_map.1 hp
  have h1 := b2e hq
  unfold a1w
  rw [if_pos (by omega)]
  refine decide_eq_true ?_
  unfold b9d
  dsimp only
  omega
 have hi : i = 0 ∨ i = 1 ∨ i = 2 := by omega
 refine d4a ⟨⟨h, (show (1 : Int) ≤ 1 ∧ (1 : Int) ≤ 9999 by omega), (show (0 : Int) ≤ 0 ∧ (0 : Int) ≤ 41 by omega), (show (0 : Int) ≤ 0 ∧ (0 : Int) ≤ 9999 by omega), (show (0 : Int) ≤ 1 ∧ (1 : Int) ≤ 9999 by omega), (show (0 : Int) ≤ 0 ∧ (0 : Int) ≤ 9999 by omega), (show (0 : Int) ≤ 41 ∧ (41 : Int) ≤ 41 by omega)⟩, ?_, rfl, ?_, ?_, rfl, rfl, ?_, f4c rfl rfl⟩ ?_ rfl
 ·rcases hi with rfl | rfl | rfl <;> rfl
 ·intro j o ho; simp at ho
 ·show ((s2s i 4).map b1o).length = _
  rw [List.length_map]
 ·intro j l hl
  have hl : ((s2s i 4).map b1o)[j]? = some l := hl
  rw [List.getElem?_map] at hl
  cases hq : (s2s i 4)[j]? with
  | none => rw [hq] at hl; cases hl
  | some q =>
   rw [hq] at hl; cases hl
   refine ⟨rfl, ?_⟩
   have h1 := b2e (List.mem_of_getElem? hq)
   rw [c6b (l := b1o q) (by show 0 ≤ q ∧ q ≤ 3; omega) (show c2v ⟨0, 0, 0⟩ by decide) (Nat.zero_le _)]; rfl
 ·intro l hl
  obtain ⟨q, _, rfl⟩ := List.mem_map.1 (show l ∈ (s2s i 4).map b1o from hl)
  rfl
theorem e8w (h : z7z n) : z7z (a7l n) := by
 rw [b7z h]
 exact d4b (u := false) (inc := n.inc) (ver := 0) h h.1.1.2.1 ⟨by decide, by decide⟩
theorem e8x (h : z7z n) : z7z (a4x n) := by
 by_cases k : n.up = true ∨ 9999 ≤ n.inc
 ·rw [b3n h k]; exact h
 ·rw [b8a h k]
  have := h.1.1.2.1
  exact d4b (u := true) (inc := n.inc + 1) (ver := 1) h ⟨by omega, by omega⟩ ⟨by decide, by decide⟩
theorem c9s (h : z7z n) (k : a5b n) : z7z { c9o n with round := n.led + 1, low := 41 } := by
 have := h.1.1.2.2.2.1
 have := k.2.2.1
 exact d3z (d3x h k.2.2.1) ⟨by omega, by omega⟩
theorem e0o (k : z7z n) (w : Wo) : z7z (a1b h n w).2.1 := by
 unfold a1b
 split
 ·exact k
 ·split
  ·split
   ·split <;> exact k
   ·exact k
  ·split
   ·split
    ·split
     ·exact c9q k _ _
     ·exact k
    ·exact k
   ·exact k
theorem d1t (k : z7z n) (hk : a0r h) (w : Wo) : z7z (p6p h n w).2.1 := by
 unfold p6p
 rw [if_pos ⟨hk, k⟩]
 split
 ·exact e0o k w
 ·exact k
theorem e8y (k : z7z n) (w : Wo) : z7z (r2r n w).1 := by
 unfold r2r
 rw [if_pos k]
 split
 ·unfold b0h
  split
  ·exact e8v k _ _ _ _ _
  ·split
   ·split
    ·exact e0m k _
    ·exact k
   ·split
    ·exact k
    ·split
     ·split
      ·exact c9q k _ _
      ·exact k
     ·exact k
 ·exact k
end
section
def f4v (l : List Wo) (k : Int) : Prop := (∀ w ∈ l, a4l w ∧ w.kind = k) ∧ l.Pairwise fun a b => a.from' < b.from'
variable {l : List Wo} {k : Int}
theorem e0p : b1t l k ↔ f4v l k := by
 constructor
 ·intro h
  refine ⟨fun w hw => ?_, ?_⟩
  ·obtain ⟨i, hi⟩ := List.getElem?_of_mem hw
   exact ⟨(h i w hi).1, (h i w hi).2.1⟩
  ·rw [List.pairwise_iff_getElem]
   intro i j hi hj hij
   have key : ∀ (d i : Nat) a b, l[i]? = some a → l[i + d + 1]? = some b → a.from' < b.from' := by
    intro d
    induction d with
    | zero => intro i a b ha hb; exact (h (i + 0 + 1) b hb).2.2 a (by omega) (by simpa using ha)
    | succ d ih =>
     intro i a b ha hb
     obtain ⟨c, hc⟩ : ∃ c, l[i + d + 1]? = some c := ⟨_, List.getElem?_eq_getElem (by have := (List.getElem?_eq_some_iff.1 hb).1; omega)⟩
     have h1 := ih i a c ha hc
     have h2 := (h (i + (d + 1) + 1) b hb).2.2 c (by omega) (by rw [show i + (d + 1) + 1 - 1 = i + d + 1 from by omega]; exact hc)
     omega
   exact key (j - i - 1) i _ _ (List.getElem?_eq_getElem hi) (by rw [show i + (j - i - 1) + 1 = j from by omega]; exact List.getElem?_eq_getElem hj)
 ·rintro ⟨h1, h2⟩ i w hw
  refine ⟨(h1 w (List.mem_of_getElem? hw)).1, (h1 w (List.mem_of_getElem? hw)).2, fun p hi hp => ?_⟩
  rw [List.pairwise_iff_getElem] at h2
  obtain ⟨l1, e1⟩ := List.getElem?_eq_some_iff.1 hw
  obtain ⟨l2, e2⟩ := List.getElem?_eq_some_iff.1 hp
  have := h2 (i - 1) i l2 l1 (by omega)
  rw [e1, e2] at this
  exact this
theorem b0z {x : Wo} {again : Bool} : ∀ {l : List Wo} {d : Bool} {w : Wo}, w ∈ a6x x again l d → w = x ∨ w ∈ l
 | [], d, w, h => by cases d <;> simp [a6x] at h; exact .inl h
 | a :: r, d, w, h => by
  unfold a6x at h
  split at h
  ·split at h
   ·rcases List.mem_cons.1 h with h | h
    ·exact .inl h
    ·rcases b0z h with h | h
     ·exact .inl h
     ·exact .inr (List.mem_cons_of_mem _ h)
   ·rcases List.mem_cons.1 h with h | h
    ·exact .inr (h ▸ List.mem_cons_self ..)
    ·rcases b0z h with h | h
     ·exact .inl h
     ·exact .inr (List.mem_cons_of_mem _ h)
  ·split at h
   ·rcases List.mem_cons.1 h with h | h
    ·exact .inl h
    ·rcases List.mem_cons.1 h with h | h
     ·exact .inr (h ▸ List.mem_cons_self ..)
     ·rcases b0z h with h | h
      ·exact .inl h
      ·exact .inr (List.mem_cons_of_mem _ h)
   ·rcases List.mem_cons.1 h with h | h
    ·exact .inr (h ▸ List.mem_cons_self ..)
    ·rcases b0z h with h | h
     ·exact .inl h
     ·exact .inr (List.mem_cons_of_mem _ h)
theorem c2b {x : Wo} {again : Bool} : ∀ {l : List Wo}, (∀ w ∈ l, x.from' < w.from') → a6x x again l true = l
 | [], _ => rfl
 | a :: r, h => by
  have h1 := h a (List.mem_cons_self ..)
  unfold a6x
  rw [if_neg (by omega), if_neg (by simp), c2b fun w hw => h w (List.mem_cons_of_mem _ hw)]
theorem e0q {x : Wo} {again : Bool} : ∀ {l : List Wo}, l.Pairwise (fun a b => a.from' < b.from') → (a6x x again l false).Pairwise fun a b => a.from' < b.from'
 | [], _ => by simp [a6x]
 | a :: r, h => by
  rw [List.pairwise_cons] at h
  unfold a6x
  split
  ·rename_i e
   have hr : a6x x again r true = r := c2b fun w hw => by have := h.1 w hw; omega
   rw [hr]
   split
   ·exact List.pairwise_cons.2 ⟨fun w hw => by have := h.1 w hw; omega, h.2⟩
   ·exact List.pairwise_cons.2 h
  ·split
   ·rename_i e e2
    have hr : a6x x again r true = r := c2b fun w hw => by have := h.1 w hw; omega
    rw [hr]
    refine List.pairwise_cons.2 ⟨fun w hw => ?_, List.pairwise_cons.2 h⟩
    rcases List.mem_cons.1 hw with e3 | hw
    ·rw [e3]; exact e2.2
    ·have := h.1 w hw; have := e2.2; omega
   ·rename_i e e2
    have : a.from' < x.from' := by
     have : ¬ x.from' < a.from' := fun h => e2 ⟨rfl, h⟩
     omega
    refine List.pairwise_cons.2 ⟨fun w hw => ?_, e0q h.2⟩
    rcases b0z hw with rfl | hw
    ·exact this
    ·exact h.1 w hw
variable {x : Wo}
theorem d1u {again : Bool} (h : b1t l k) (hx : a4l x) (hk : x.kind = k) : b1t (a6x x again l false) k := by
 rw [e0p] at h ⊢
 refine ⟨fun w hw => ?_, e0q h.2⟩
 rcases b0z hw with rfl | hw
 ·exact ⟨hx, hk⟩
 ·exact h.1 w hw
theorem e0r (hx : a4l x) (hk : x.kind = k) : b1t [x] k := by
 rw [e0p]
 exact ⟨fun w hw => by rw [List.mem_singleton.1 hw]; exact ⟨hx, hk⟩, by simp⟩
theorem e0s : a0r hb0 := ⟨by decide, c6x _, c6x _, c6x _, fun w h => by cases h⟩
theorem e0t {l : La} {s : List Ev} (hs : ∀ e ∈ s, okE e = true) (h : (a5y l s).2 = true) : 0 ≤ (a5y l s).1.time ∧ (a5y l s).1.time ≤ 40 := by
 unfold a5y at h ⊢
 split at h
 ·cases h
 ·rename_i k
  rw [if_neg k]
  split at h
  ·rename_i e he
   have := hs e (List.mem_of_getElem? he)
   simp only [okE, decide_eq_true_eq] at this
   exact this.1
  ·cases h
theorem c9t {n : Nd} (h : z7z n) : ∀ k, 0 ≤ b1r n k ∧ b1r n k ≤ 41
 | 0 => by unfold b1r; omega
 | k + 1 => by
  have ih := c9t h k
  cases hl : n.lanes[k]? with
  | none => unfold b1r; rw [hl]; exact ih
  | some l =>
   by_cases h2 : (a5y l (a1x n l.proc)).2 = true ∧ (a5y l (a1x n l.proc)).1.time < b1r n k
   ·rw [d8z hl h2]
    have hc := (b6t h hl).2.2.1
    have := e0t (fun e he => (s7s hc.1).2 e he) h2.1
    omega
   ·rw [d1e hl h2]; exact ih
variable {n : Nd}
theorem e8z (h : z7z n) {r : Int} (hr : 0 ≤ r ∧ r ≤ 9999) : a4l (d9b n r) ∧ a8m (d9b n r) := by
 have hn := h.1.1
 have h3 := h.1.2.2.2.2.2.1
 have hk3 := h.1.2.2.2.2.2.2.1
 have hv := h.1.2.2.2.2.2.2.2.2
 have e1 : (n.views.map Vi.inc).length = 3 := by rw [List.length_map]; exact h3
 have e2 : (n.views.map Vi.version).length = 3 := by rw [List.length_map]; exact h3
 have vo : ∀ v ∈ n.views, d3f v := fun v hv' => by
  obtain ⟨i, hi⟩ := List.getElem?_of_mem hv'
  obtain ⟨k, hk⟩ : ∃ k, n.known[i]? = some k := ⟨_, List.getElem?_eq_getElem (by have := (List.getElem?_eq_some_iff.1 hi).1; omega)⟩
  exact (hv i v k hi hk).1
 refine ⟨⟨⟨?_, hn.1, ?_, ?_, ?_, hr, c9t h _⟩, ⟨.inr e1, fun v hv => ?_⟩, ⟨.inr e2, fun v hv => ?_⟩, rfl, rfl⟩, e1, e2⟩
 ·show (1 : Int) ≤ 3 ∧ (3 : Int) ≤ 7; omega
 ·show (0 : Int) ≤ 0 ∧ (0 : Int) ≤ 2; omega
 ·show 0 ≤ n.inc ∧ n.inc ≤ 9999
  have := hn.2.1; omega
 ·show (0 : Int) ≤ 0 ∧ (0 : Int) ≤ 9999; omega
 ·obtain ⟨w, hw, rfl⟩ := List.mem_map.1 hv; exact (vo w hw).1
 ·obtain ⟨w, hw, rfl⟩ := List.mem_map.1 hv; exact (vo w hw).2.1
variable {h : Hb}
theorem c9u (k : z7z n) (hk : a0r h) : a0r (r8r h n).1 := by
 unfold r8r
 rw [if_pos ⟨hk, k⟩]
 split
 ·rename_i q
  have hl := k.1.1.2.2.2.1
  have hq := q.2.2.1
  have := e8z (d3x k q.2.2.1) (r := n.led + 1) ⟨by omega, by omega⟩
  refine ⟨⟨?_, ?_⟩, e0r this.1 rfl, c6x _, hk.2.2.2.1, fun w hw => ?_⟩
  ·show 0 ≤ n.led + 1; omega
  ·show n.led + 1 ≤ 9999; omega
  ·rw [List.mem_singleton.1 hw]; exact this.2
 ·exact hk
variable {w : Wo}
theorem e0u (hw : a4l w) (k : d5q h w) : a8m w := by
 have h1 := hw.2.1.1
 have h2 := hw.2.2.1.1
 exact ⟨h1.resolve_left k.2.1, h2.resolve_left k.2.2.1⟩
theorem e9a (k : a0r h) (hw : a4l w) (k3 : w.kind = 3) (m : d5q h w) : a0r (d3y h w) :=
 ⟨k.1, d1u k.2.1 hw k3, k.2.2.1, k.2.2.2.1, fun x hx => by
  rcases b0z hx with rfl | hx
  ·exact e0u hw m
  ·exact k.2.2.2.2 x hx⟩
theorem e9b (k : a0r h) (hw : a4l w) (k5 : w.kind = 5) : a0r (b0i h w) := ⟨k.1, k.2.1, d1u k.2.2.1 hw k5, k.2.2.2⟩
theorem e9c (k : a0r h) (hw : a4l w) (k7 : w.kind = 7) : a0r { h with outs := a6x w true h.outs false } := ⟨k.1, k.2.1, k.2.2.1, d1u k.2.2.2.1 hw k7, k.2.2.2.2⟩
theorem e9d (k : a0r h) (q : z7z n) : a4l (f2m h n) := by
 have hn := q.1.1
 refine ⟨⟨(show (1 : Int) ≤ 5 ∧ (5 : Int) ≤ 7 by omega), (show (0 : Int) ≤ 0 ∧ (0 : Int) ≤ 2 by omega), (show (0 : Int) ≤ 0 ∧ (0 : Int) ≤ 2 by omega), ?_, hn.2.2.2.2.1, k.1, (show (0 : Int) ≤ 0 ∧ (0 : Int) ≤ 41 by omega)⟩, ⟨.inl rfl, fun v hv => by cases hv⟩, ⟨.inl rfl, fun v hv => by cases hv⟩, rfl, rfl⟩
 show 0 ≤ n.inc ∧ n.inc ≤ 9999
 have := hn.2.1; omega
theorem b2v (k : z7z n) (hk : a0r h) (w : Wo) : a0r (p6p h n w).1 := by
 unfold p6p
 rw [if_pos ⟨hk, k⟩]
 split
 ·rename_i m
  have hw := m.2.2.1
  unfold a1b
  split
  ·rename_i k7
   show a0r (if a4d h w = true then { h with outs := a6x w true h.outs false } else h)
   split
   ·exact e9c hk hw k7
   ·exact hk
  ·split
   ·rename_i k3
    split
    ·rename_i m1
     have h1 := e9a hk hw k3 m1
     split
     ·exact ⟨h1.1, h1.2.1, e0r (e9d hk k) rfl, h1.2.2.2⟩
     ·exact h1
    ·exact hk
   ·split
    ·rename_i k5
     split
     ·split <;> exact e9b hk hw k5
     ·exact hk
    ·exact hk
 ·exact hk
structure Te where
 kind : Int
 node : Int
 proc : Int
 word : Int
 keep : Bool
 deriving DecidableEq, Inhabited

structure Sm where
 w : Tw
 list : List Te
 p : Nat
def c6z (x : Wo) : Prop := (0 ≤ x.to ∧ x.to ≤ 2) ∧ wob x
theorem e9f {l : List Nd} (h3 : l.length = 3) (i : Nat) (hi : i < 3) : ∃ n, l[i]? = some n := ⟨_, List.getElem?_eq_getElem (by omega)⟩
theorem d5s (h : z7z n) {k : Nat} (hk : k ≤ 2) : c6z (b2i n (k : Int)) := by
 have := c9a h.1 (k : Int)
 refine ⟨⟨?_, ?_⟩, Nat.zero_le _, Nat.zero_le _, ?_, Nat.zero_le _⟩
 ·show (0 : Int) ≤ (k : Int); omega
 ·show (k : Int) ≤ 2; omega
 ·show (a3r n (k : Int)).length ≤ 1000000; omega
theorem b3t {n : Nd} (h : z7z n) : ∀ k, k ≤ 3 → ∀ x ∈ a6u n k, c6z x
 | 0, _, x, hx => by cases hx
 | k + 1, hk, x, hx => by
  by_cases e : (k : Int) = n.id
  ·rw [d3j e] at hx; exact b3t h k (by omega) x hx
  ·rw [d3i e] at hx
   rcases List.mem_append.1 hx with h1 | h1
   ·exact b3t h k (by omega) x h1
   ·rw [List.mem_singleton.1 h1]; exact d5s h (by omega)
theorem e4i (h : z7z n) : ∀ x ∈ c1g n, c6z x := fun x hx => by
 unfold c1g at hx
 have ho := (q5q h.1).2.2.1
 split at hx
 ·split at hx
  ·exact b3t h 3 (by omega) x hx
  ·rcases List.mem_append.1 hx with h1 | h1
   ·exact b3t h 3 (by omega) x h1
   ·rw [List.mem_singleton.1 h1]
    exact ⟨⟨by show (0 : Int) ≤ 0; omega, by show (0 : Int) ≤ 2; omega⟩, Nat.zero_le _, Nat.zero_le _, Nat.zero_le _, by show n.outs.length ≤ 1000000; omega⟩
 ·cases hx
theorem e4j (h : z7z n) (r : Int) : c6z (d9b n r) := by
 have := h.1.2.2.2.2.2.1
 refine ⟨⟨by show (0 : Int) ≤ 0; omega, by show (0 : Int) ≤ 2; omega⟩, ?_, ?_, Nat.zero_le _, Nat.zero_le _⟩
 ·show (n.views.map Vi.inc).length ≤ 1000000; rw [List.length_map]; omega
 ·show (n.views.map Vi.version).length ≤ 1000000; rw [List.length_map]; omega
theorem b2w (h : w.to = 0 ∨ w.to = 1 ∨ w.to = 2) (h1 : w.incs = []) (h2 : w.versions = []) (h3 : w.events = []) (h4 : w.outs = []) : c6z w :=
 ⟨by omega, by simp [h1], by simp [h2], by simp [h3], by simp [h4]⟩
theorem e0v (h1 : w.incs = []) (h2 : w.versions = []) (h3 : w.events = []) (h4 : w.outs = []) : ∀ x ∈ e1x w, c6z x := fun x hx => by
 simp only [e1x, List.mem_cons, List.not_mem_nil, or_false] at hx
 rcases hx with rfl | rfl
 ·exact b2w (.inr (.inl rfl)) h1 h2 h3 h4
 ·exact b2w (.inr (.inr rfl)) h1 h2 h3 h4
theorem c7a (h : z7z n) (w : Wo) : ∀ x ∈ (r2r n w).2, c6z x := by
 unfold r2r
 rw [if_pos h]
 split
 ·unfold b0h
  split
  ·intro x hx; cases hx
  ·split
   ·split
    ·rename_i hr
     intro x hx
     rw [List.mem_singleton.1 hx]
     unfold w6w at hr ⊢
     rw [if_pos h] at hr ⊢
     split
     ·exact e4j h _
     ·rename_i k; rw [if_neg k] at hr; cases hr
    ·intro x hx; cases hx
   ·split
    ·intro x hx
     split at hx
     ·rw [List.mem_singleton.1 hx]; exact b2w (.inl rfl) rfl rfl rfl rfl
     ·cases hx
    ·split
     ·split <;> (intro x hx; cases hx)
     ·intro x hx; cases hx
 ·intro x hx; cases hx
theorem e0w (h : Hb) (n : Nd) : ∀ x ∈ (r8r h n).2.2, c6z x := by
 unfold r8r
 split
 ·split
  ·exact e0v rfl rfl rfl rfl
  ·intro x hx; cases hx
 ·intro x hx; cases hx
theorem b8k (h : Hb) (n : Nd) (w : Wo) : ∀ x ∈ (p6p h n w).2.2, c6z x := by
 unfold p6p
 split
 ·split
  ·unfold a1b
   split
   ·intro x hx; cases hx
   ·split
    ·split
     ·split
      ·exact e0v rfl rfl rfl rfl
      ·intro x hx; cases hx
     ·intro x hx; cases hx
    ·split
     ·split
      ·split
       ·intro x hx
        simp only [List.mem_cons, List.not_mem_nil, or_false] at hx
        rcases hx with rfl | rfl
        ·exact b2w (.inr (.inl rfl)) rfl rfl rfl rfl
        ·exact b2w (.inr (.inr rfl)) rfl rfl rfl rfl
       ·intro x hx; cases hx
      ·intro x hx; cases hx
     ·intro x hx; cases hx
  ·intro x hx; cases hx
 ·intro x hx; cases hx
theorem e4k (k : z7z n) (hn : a0r h) : z7z (r8r h n).2.1 := by
 unfold r8r
 rw [if_pos ⟨hn, k⟩]
 split
 ·rename_i q; exact c9s k q
 ·exact k

def b1a (r m : List Wo) : List Wo := r ++ m.take (40 - r.length)
variable {r m : List Wo}
theorem e4l (h : r.length ≤ 40) : (b1a r m).length ≤ 40 := by
 unfold b1a; rw [List.length_append, List.length_take]; omega
theorem e4m (h : ∀ x ∈ r, c6z x) (k : ∀ x ∈ m, c6z x) : ∀ x ∈ b1a r m, c6z x := fun x hx => by
 rcases List.mem_append.1 hx with h1 | h1
 ·exact h x h1
 ·exact k x (List.mem_of_mem_take h1)
end
section
variable {w x : Wo} {r : List Wo} {d : Bool}
theorem f1i (h : x.from' = w.from') : a6x w true (x :: r) d = w :: a6x w true r true := by
 show (if x.from' = w.from' then _ else _) = _
 rw [if_pos h]; rfl
theorem f1j (h : x.from' = w.from') : a6x w false (x :: r) d = x :: a6x w false r true := by
 show (if x.from' = w.from' then _ else _) = _
 rw [if_pos h]; rfl
variable {ag : Bool}
theorem f1k (h : ¬ x.from' = w.from') (h2 : w.from' < x.from') : a6x w ag (x :: r) false = w :: x :: a6x w ag r true := by
 show (if x.from' = w.from' then _ else if false = false ∧ w.from' < x.from' then _ else _) = _
 rw [if_neg h, if_pos ⟨rfl, h2⟩]
theorem d4c (h : ¬ x.from' = w.from') (h2 : ¬ (d = false ∧ w.from' < x.from')) : a6x w ag (x :: r) d = x :: a6x w ag r d := by
 show (if x.from' = w.from' then _ else if d = false ∧ w.from' < x.from' then _ else _) = _
 rw [if_neg h, if_neg h2]
variable {l : List Wo}
theorem b1c {o t l' : List Wo} {a : List Wo} (h : o ++ l = t) (e : l = a ++ l') : (o ++ a) ++ l' = t := by rw [List.append_assoc, ← e, h]
theorem d4e {f : Int} {w : Wo} : ∀ {l : List Wo} {i : Nat}, (∀ (j : Nat) a, j < i → l[j]? = some a → ¬ a.from' = f) → l[i]? = some w → w.from' = f → b5n f l = some w
 | [], i, _, h, _ => by simp at h
 | a :: l, 0, _, h, k => by
  have : a = w := by simpa using h
  subst this
  simp [b5n, k]
 | a :: l, i + 1, hn, h, k => by
  have h0 := hn 0 a (by omega) rfl
  have := d4e (l := l) (i := i) (fun j b hj hb => hn (j + 1) b (by omega) (by simpa using hb)) (by simpa using h) k
  unfold b5n at this ⊢
  rw [List.find?_cons, decide_eq_false h0]
  exact this
theorem e4n {f : Int} (hn : ∀ (j : Nat) a, l[j]? = some a → ¬ a.from' = f) : b5n f l = none := by
 unfold b5n
 rw [List.find?_eq_none]
 intro a ha
 obtain ⟨j, hj⟩ := List.getElem?_of_mem ha
 simpa using hn j a hj
def e9q (f : Int) (l : List Wo) : Wo := (b5n f l).getD wo0
variable {k : Int}
theorem d1v (h : b1t l k) : ∀ w ∈ l, wob w := fun w hw => by
 obtain ⟨i, hi⟩ := List.getElem?_of_mem hw
 exact c9n (h i w hi).1
variable {i : Nat}
theorem b2x {α : Type} {l : List α} {x d : α} (h : l[i]? = some x) : l.getD i d = x := by rw [List.getD_eq_getElem?_getD, h]; rfl
variable {m : Int}
theorem d4f (h : l[i]? = some w) (k : w.g < a2b m (l.take i)) : w.g = a2b m (l.take (i + 1)) := by rw [c2a h, if_pos k]
theorem d4g (h : l[i]? = some w) (k : ¬ w.g < a2b m (l.take i)) : a2b m (l.take i) = a2b m (l.take (i + 1)) := by rw [c2a h, if_neg k]

def b4l (h : Hb) (g : Int) (i : Nat) : List Wo := (List.range 2).map fun j => if j < i then c6y h g (j + 1) else { c6y h g (j + 1) with inc := 0 }
theorem e0x (h : Hb) (g : Int) (hi : i < 2) : (b4l h g i)[i]? = some { c6y h g (i + 1) with inc := 0 } := by
 match i, hi with
 | 0, _ => rfl
 | 1, _ => rfl
theorem d5t (h : Hb) (g : Int) (hi : i < 2) : (b4l h g i).set i (c6y h g (i + 1)) = b4l h g (i + 1) := by
 match i, hi with
 | 0, _ => rfl
 | 1, _ => rfl
variable {h : Hb}
theorem e0y {to : Nat} {b : Wo} (hb : h.twos[to]? = some b) (g : Int) : (c6y h g to).inc = b.inc := by
 show (h.twos.map Wo.inc).getD to 0 = b.inc
 rw [List.getD_eq_getElem?_getD, List.getElem?_map, hb]; rfl
variable {n : Nd}
theorem c9v (k : z7z n) (h : n.led < 9999) : (w6w (c9o n) (c9o n).led).2.2 = true ↔ (n.up = true ∧ n.round < n.led + 1) := by
 have hl := k.1.1.2.2.2.1
 unfold w6w
 rw [if_pos (d3x k h)]
 constructor
 ·intro q
  split at q
  ·rename_i m; exact ⟨m.1, by have := m.2.1; show n.round < n.led + 1; exact Int.lt_of_lt_of_le (Int.lt_succ n.round) this⟩
  ·cases q
 ·rintro ⟨q1, q2⟩
  rw [if_pos ⟨q1, by show n.round + 1 ≤ n.led + 1; omega, by show n.led + 1 ≤ 9999; omega⟩]
theorem e4o (k : a0r h ∧ z7z n) (m : a5b n) : w6w (c9o n) (c9o n).led = ((r8r h n).2.1, d9b (c9o n) (n.led + 1), true) := by
 have hl := k.2.1.1.2.2.2.1
 rw [d1s k m]
 unfold w6w
 rw [if_pos (d3x k.2 m.2.2.1), if_pos ⟨m.2.1, by have := m.2.2.2; show n.round + 1 ≤ n.led + 1; omega, by have := m.2.2.1; show n.led + 1 ≤ 9999; omega⟩]
 rfl
theorem e4p (k : (b5n w.from' h.outs).isSome = false) : a4d h w = true := by
 unfold a4d
 cases e : b5n w.from' h.outs with
 | none => rfl
 | some x => rw [e] at k; cases k
theorem c9w (k : (b5n w.from' h.outs).isSome = true) : a4d h w = true ↔ (e9q w.from' h.outs).g < w.g := by
 unfold a4d e9q
 cases e : b5n w.from' h.outs with
 | none => rw [e] at k; cases k
 | some x => simp
theorem e0z (k : (s3s h).2 = true) : a7g h := Classical.byContradiction fun q => by rw [b5o q] at k; cases k
theorem f1l (k : ¬ (a0r h ∧ z7z n)) : p6p h n w = (hb0, nd0, []) := if_neg k
theorem e1a (k : a0r h ∧ z7z n) (m : ¬ a1v n w) : p6p h n w = (h, n, []) := by unfold p6p; rw [if_pos k, if_neg m]
theorem b5p (k : a0r h ∧ z7z n) (m : a1v n w) : p6p h n w = a1b h n w := by unfold p6p; rw [if_pos k, if_pos m]
theorem e5z (k : w.kind = 7) (l : a4d h w = true) : a1b h n w = ({ h with outs := a6x w true h.outs false }, n, []) := by unfold a1b; rw [if_pos k, if_pos l]
theorem f1m (k : w.kind = 7) (l : ¬ a4d h w = true) : a1b h n w = (h, n, []) := by unfold a1b; rw [if_pos k, if_neg l]
theorem d4h (k : w.kind = 3) (l : ¬ d5q h w) : a1b h n w = (h, n, []) := by unfold a1b; rw [if_neg (by omega), if_pos k, if_neg l]
theorem f1n (k : w.kind = 3) (l : d5q h w) (e : (d3y h w).ones.length = 3) : a1b h n w = ({ d3y h w with twos := [f2m h n] }, n, e1x (e8t h.round)) := by unfold a1b; rw [if_neg (by omega), if_pos k, if_pos l, if_pos e]
theorem f1o (k : w.kind = 3) (l : d5q h w) (e : ¬ (d3y h w).ones.length = 3) : a1b h n w = (d3y h w, n, []) := by unfold a1b; rw [if_neg (by omega), if_pos k, if_pos l, if_neg e]
theorem e1b (k : w.kind = 5) (l : ¬ e1y h w) : a1b h n w = (h, n, []) := by unfold a1b; rw [if_neg (by omega), if_neg (by omega), if_pos k, if_neg l]
theorem f1p (k : w.kind = 5) (l : e1y h w) (e : (s3s (b0i h w)).2 = true) : a1b h n w = (b0i h w, (s8s n h.round (s3s (b0i h w)).1).1, b4l (b0i h w) (s3s (b0i h w)).1 2) := by unfold a1b; rw [if_neg (by omega), if_neg (by omega), if_pos k, if_pos l, if_pos e]; rfl
theorem f1q (k : w.kind = 5) (l : e1y h w) (e : ¬ (s3s (b0i h w)).2 = true) : a1b h n w = (b0i h w, n, []) := by unfold a1b; rw [if_neg (by omega), if_neg (by omega), if_pos k, if_pos l, if_neg e]
theorem f3n (k7 : ¬ w.kind = 7) (k3 : ¬ w.kind = 3) (k5 : ¬ w.kind = 5) : a1b h n w = (h, n, []) := by unfold a1b; rw [if_neg k7, if_neg k3, if_neg k5]
theorem c9x (k : ¬ (a0r h ∧ z7z n ∧ n.id = 0 ∧ h.outs.length = 2)) : a8e h n = [] := if_neg k
theorem e6a (k : a0r h ∧ z7z n ∧ n.id = 0 ∧ h.outs.length = 2) : a8e h n = a1n ((n.outs ++ h.outs.flatMap Wo.outs).filter fun o => decide (o.time < a2b n.g h.outs)) := if_pos k
def d1w (g : Int) (o : Ou) : Bool := decide (o.time < g)
theorem d4i (h : b1t l k) : ∀ w ∈ l, w.outs.length ≤ 96 := fun w hw => by
 obtain ⟨i, hi⟩ := List.getElem?_of_mem hw
 have := (s7s (h i w hi).1.2.2.2.2).1
 omega
end
section

def e6b (l : La) : St := if a6t l = true then b4c l l.done.length else ⟨0, 0, 0⟩
variable {l : La}
theorem f1r (h : ¬ a6t l = true) : e6b l = ⟨0, 0, 0⟩ := if_neg h
theorem f1s (h : a6t l = true) (h2 : l.done.length = 0) : e6b l = l.base := by unfold e6b; rw [if_pos h, h2]; rfl
variable {p : Pa}
theorem f1t (h : a6t l = true) (h2 : l.done[l.done.length - 1]? = some p) : e6b l = p.after := by
 have hlt := (List.getElem?_eq_some_iff.1 h2).1
 unfold e6b
 rw [if_pos h]
 have := c1k h2
 rw [show l.done.length - 1 + 1 = l.done.length from by omega] at this
 exact this
def paT (p : Pa) : Prop := ∀ q ∈ p.outs, q.time = p.ev.time
def c2x (n : Nd) : Prop := ∀ l ∈ n.lanes, ∀ p ∈ l.done, paT p
def ndI (n : Nd) : Prop := z7z n ∧ c2x n
variable {n : Nd}
theorem e1c {P : La → Prop} (hP : ∀ l k, P l → P (a2q l 0 k)) : ∀ (k : Nat) {ls : List La}, c6l ls ≤ k → (∀ l ∈ ls, P l) → ∀ l ∈ a0f n ls, P l := by
 have step : ∀ (ls : List La) (i : Nat), (∀ l ∈ ls, P l) → ∀ l ∈ b6u n ls i, P l := fun ls i h => by
  rcases b2m n ls i with ⟨h1, h2⟩ | ⟨l, h0, h3, h1, h2⟩
  ·rw [h1]; exact h
  ·rw [h1]
   intro m hm
   rcases List.mem_or_eq_of_mem_set hm with hm | hm
   ·exact h m hm
   ·rw [hm]; exact hP l _ (h l (List.mem_of_getElem? h0))
 have pass : ∀ (ls : List La), (∀ l ∈ ls, P l) → ∀ i, ∀ l ∈ a3g n ls i, P l := fun ls h i => by
  induction i with
  | zero => exact h
  | succ i ih => exact step _ i ih
 intro k
 induction k with
 | zero =>
  intro ls hk h
  cases hm : b0w n ls ls.length with
  | false => rw [← b9u hm]; exact pass ls h _
  | true => have hd := (b0d n ls ls.length).2 hm; omega
 | succ k ih =>
  intro ls hk h
  cases hm : b0w n ls ls.length with
  | false => rw [← b9u hm]; exact pass ls h _
  | true =>
   have hd := (b0d n ls ls.length).2 hm
   rw [← c6n hm]
   exact ih (by omega) (pass ls h _)
theorem e9g {k : Nat} (h : ∀ p ∈ l.done, paT p) : ∀ p ∈ (a2q l 0 k).done, paT p := fun p hp => h p (List.mem_of_mem_take (List.mem_of_mem_drop hp))
variable {m : Nd}
theorem c4x (h : c2x m) : c2x (nl m (a0f m m.lanes)) := e1c (P := fun l => ∀ p ∈ l.done, paT p) (fun l k h => e9g h) _ (Nat.le_refl _) h
theorem e1d (h : c2x n) (f inc ver g : Int) (es : List Ev) : c2x (a4f n f inc ver g es) := by
 have h0 : c2x nd0 := fun l hl => by cases hl
 have hA : c2x (a9f n (b5g n f.toNat inc ver g es)) := by
  have hm : c2x (b5g n f.toNat inc ver g es) := by
   unfold c2x
   rw [(d3q n f.toNat inc ver g es).2.2]; exact h
  exact c4x hm
 unfold a4f
 split
 ·split
  ·unfold b0u
   split
   ·exact hA
   ·exact h
  ·exact h
 ·exact h0
theorem c2d (h : c2x n) (r g : Int) : c2x (s8s n r g).1 := by
 have hS : c2x (a4n n g) := fun l hl p hp => by
  obtain ⟨l0, h1, rfl⟩ := List.mem_map.1 (show l ∈ n.lanes.map (c1l g) from hl)
  exact h l0 h1 p (List.mem_of_mem_drop hp)
 unfold s8s
 split
 ·split
  ·unfold b0u
   split
   ·exact hS
   ·exact h
  ·exact h
 ·exact fun l hl => by cases hl
theorem d1x (h : c2x n) (r : Int) : c2x (w6w n r).1 := by
 unfold w6w
 split
 ·split
  ·exact h
  ·exact h
 ·exact fun l hl => by cases hl
theorem c4y (n : Nd) (u : Bool) (inc ver : Int) : c2x { a2o n with up := u, inc := inc, version := ver } := fun l hl p hp => by
 obtain ⟨l0, _, rfl⟩ := List.mem_map.1 (show l ∈ n.lanes.map s5s from hl)
 cases hp
theorem e6c (h : ndI n) : ndI (a7l n) := ⟨e8w h.1, by rw [b7z h.1]; exact c4y n false n.inc 0⟩
theorem f1u (h : ndI n) : ndI (a4x n) := ⟨e8x h.1, by
 by_cases k : n.up = true ∨ 9999 ≤ n.inc
 ·rw [b3n h.1 k]; exact h.2
 ·rw [b8a h.1 k]; exact c4y n true (n.inc + 1) 1⟩
theorem e9h (i : Int) (h : 0 ≤ i ∧ i ≤ 2) : ndI (a2n i) := ⟨e4h i h, fun l hl p hp => by
 unfold a2n at hl
 rw [if_pos h] at hl
 obtain ⟨q, _, rfl⟩ := List.mem_map.1 (show l ∈ (s2s i 4).map b1o from hl)
 cases hp⟩
variable {h : Hb}
theorem e9i (k : ndI n) (hn : a0r h) : ndI (r8r h n).2.1 := ⟨e4k k.1 hn, by
 unfold r8r
 rw [if_pos ⟨hn, k.1⟩]
 split <;> exact k.2⟩
theorem c7b (k : ndI n) (hk : a0r h) (w : Wo) : ndI (p6p h n w).2.1 := ⟨d1t k.1 hk w, by
 unfold p6p
 rw [if_pos ⟨hk, k.1⟩]
 split
 ·unfold a1b
  split
  ·exact k.2
  ·split
   ·split
    ·split <;> exact k.2
    ·exact k.2
   ·split
    ·split
     ·split
      ·exact c2d k.2 _ _
      ·exact k.2
     ·exact k.2
    ·exact k.2
 ·exact k.2⟩
theorem e1f (k : ndI n) (w : Wo) : ndI (r2r n w).1 := ⟨e8y k.1 w, by
 unfold r2r
 rw [if_pos k.1]
 split
 ·unfold b0h
  split
  ·exact e1d k.2 _ _ _ _ _
  ·split
   ·split
    ·exact d1x k.2 _
    ·exact k.2
   ·split
    ·exact k.2
    ·split
     ·split
      ·exact c2d k.2 _ _
      ·exact k.2
     ·exact k.2
 ·exact k.2⟩

def a3b (l : La) (p : Pa) : La := ⟨l.proc, l.base, l.done ++ [p]⟩
def paB (p : Pa) : Prop := p.sends.length ≤ 32 ∧ p.outs.length ≤ 32 ∧ paT p
variable {i : Nat}
theorem e4q (h : wk n) (hl : n.lanes[i]? = some l) (hd : l.done.length < 100) (hp : paB p) : wk (nl n (n.lanes.set i (a3b l p))) := by
 obtain ⟨h1, h2, h3, h4, h5, h6, h7⟩ := h
 refine ⟨by show (n.lanes.set i (a3b l p)).length ≤ 4; rw [List.length_set]; exact h1, h2, h3, h4, fun m hm => ?_, h6, fun j m hm => ?_⟩
 ·have hm : m ∈ n.lanes.set i (a3b l p) := hm
  rcases List.mem_or_eq_of_mem_set hm with hm | hm
  ·exact h5 m hm
  ·obtain ⟨q1, q2⟩ := h5 l (List.mem_of_getElem? hl)
   rw [hm]
   refine ⟨by show (l.done ++ [p]).length ≤ 100; rw [List.length_append]; simp only [List.length_cons, List.length_nil]; omega, fun x hx => ?_⟩
   rcases List.mem_append.1 (show x ∈ l.done ++ [p] from hx) with hx | hx
   ·exact q2 x hx
   ·rw [List.mem_singleton.1 hx]; exact ⟨hp.1, hp.2.1⟩
 ·have hm : (n.lanes.set i (a3b l p))[j]? = some m := hm
  rw [List.getElem?_set] at hm
  by_cases e : i = j
  ·subst e
   rw [if_pos rfl, if_pos (List.getElem?_eq_some_iff.1 hl).1] at hm
   cases hm
   exact h7 i l hl
  ·rw [if_neg e] at hm; exact h7 j m hm
theorem e1g (h : c2x n) (hl : n.lanes[i]? = some l) (hp : paB p) : c2x (nl n (n.lanes.set i (a3b l p))) := fun m hm x hx => by
 have hm : m ∈ n.lanes.set i (a3b l p) := hm
 rcases List.mem_or_eq_of_mem_set hm with hm | hm
 ·exact h m hm x hx
 ·rw [hm] at hx
  rcases List.mem_append.1 (show x ∈ l.done ++ [p] from hx) with hx | hx
  ·exact h l (List.mem_of_getElem? hl) x hx
  ·rw [List.mem_singleton.1 hx]; exact hp.2.2
theorem f3o {l : List Nd} (h : ∀ n ∈ l, ndI n) (hm : ndI m) : ∀ n ∈ l.set i m, ndI n := fun n hn => by
 rcases List.mem_or_eq_of_mem_set hn with h1 | h1
 ·exact h n h1
 ·rw [h1]; exact hm
theorem e1h {s : List Ev} (h : (b1q l s).2 = true) : l.done.length < 100 := by
 by_cases k : a6t l = true ∧ b2j l s
 ·rw [c1h k] at h
  have h1 := (s7s k.2.1).1
  unfold a5y at h
  split at h
  ·cases h
  ·rename_i k2
   split at h
   ·rename_i e he
    have := (List.getElem?_eq_some_iff.1 he).1
    omega
   ·cases h
 ·rw [d1c k] at h; cases h
theorem e9j {e : Ev} {s : St} {sd : List Ev} {ou : List Ou} (h1 : sd.length ≤ 32) (h2 : ou.length ≤ 32) (h3 : ∀ q ∈ ou, q.time = e.time) : paB ⟨e, s, p0p sd, a1n ou⟩ := by
 refine ⟨?_, ?_, fun q hq => h3 q ?_⟩
 ·show (p0p sd).length ≤ 32
  have := b0c sd; omega
 ·show (a1n ou).length ≤ 32
  rw [b3o]; exact h2
 ·exact (a9y ou).mem_iff.1 (show q ∈ a1n ou from hq)
def b8l (w : Tw) : Prop := a6w w.apps ∧ w.nodes.length = 3 ∧ (∀ n ∈ w.nodes, ndI n) ∧ w.radio.length ≤ 40 ∧ (∀ x ∈ w.radio, c6z x) ∧ a0r w.hub ∧ w.sink.length ≤ 1000000
def smOk (S : Sm) (c : Nat) : Prop := b8l S.w ∧ S.list.length ≤ c ∧ S.p ≤ c
theorem smOk.mono {S : Sm} {c d : Nat} (h : smOk S c) (hd : c ≤ d) : smOk S d := ⟨h.1, by have := h.2.1; omega, by have := h.2.2; omega⟩
end
section
def a8n (c : Bool) (h : Hb) : List AV := [pI h.round, q3q c h.ones, q3q c h.twos, q3q c h.outs]
def a4p (e : Te) : List AV := [pI e.kind, pI e.node, pI e.proc, pI e.word, .pv (.bool e.keep)]
def wZ (k f t i v r g : Int) : Wo := ⟨k, f, t, i, v, r, g, [], [], [], []⟩
def cZ (k f t i v r g : Int) : List AV := [pI k, pI f, pI t, pI i, pI v, pI r, pI g, .pv (.slice none 0 0), .pv (.slice none 0 0), .pv (.slice none 0 0), .pv (.slice none 0 0)]
theorem f3p (k f t i v r g : Int) : LeL true (cZ k f t i v r g) (p4p true (wZ k f t i v r g)) :=
 .cons (.cl rfl) (.cons (.cl rfl) (.cons (.cl rfl) (.cons (.cl rfl) (.cons (.cl rfl) (.cons (.cl rfl) (.cons (.cl rfl) (.cons .nil (.cons .nil (.cons .nil (.cons .nil .nil))))))))))
theorem a2v (h0 : u1u h i = some (g, .row 79 11 (l.map (p4p true)))) (t : FinL ((i, (g, .dead)) :: h) az bs h') : FinL h (.ref i g :: az) (q3q true l :: bs) h' := .ref h0 (Le.ow_map _ (fun _ => rfl) (fun _ => rfl)) t
theorem f1v (k f t i v r g : Int) : Le true (.row .ow 79 11 [cZ k f t i v r g]) (q3q true [wZ k f t i v r g]) := Le.ow_map2 (f := fun _ : Unit => cZ k f t i v r g) (f' := fun _ : Unit => p4p true (wZ k f t i v r g)) [()] (fun h => h) (fun _ => f3p k f t i v r g)
theorem f3q (h0 : u1u h j = some (q, .row 79 11 [cZ k f t i v r g])) (x : FinL ((j, (q, .dead)) :: h) az bs h') : FinL h (.ref j q :: az) (q3q true [wZ k f t i v r g] :: bs) h' := .ref h0 (f1v k f t i v r g) x
theorem c9y (t : FinL h az bs h') : FinL h (.agg (w5w true n) :: az) (.agg (w5w true n) :: bs) h' := .agg rfl (.cl rfl (.cl rfl (.cl rfl (.cl rfl (.cl rfl (.cl rfl (.cl rfl (.cl rfl (.cl rfl (.cl rfl (.cl rfl (.cl rfl (.cl rfl .nil))))))))))))) t
theorem a8f (t : FinL h az bs h') : FinL h (.agg (a8n true u) :: az) (.agg (a8n true u) :: bs) h' := .agg rfl (.cl rfl (.cl rfl (.cl rfl (.cl rfl .nil)))) t
theorem d4j (t : FinL h az bs h') : FinL h (.agg [pI 0, .pv (.slice none 0 0), .pv (.slice none 0 0), .pv (.slice none 0 0)] :: az) (.agg (a8n true hb0) :: bs) h' := .agg rfl (.cl rfl (.le rfl .nil (.le rfl .nil (.le rfl .nil .nil)))) t
theorem f1w (h0 : u1u h j = some (q, .row 79 11 [cZ k f t i v r g])) (x : FinL ((j, (q, .dead)) :: h) az bs h') :
  FinL h (.agg [pI R, q3q true a, .ref j q, q3q true b] :: az) (.agg (a8n true ⟨R, a, [wZ k f t i v r g], b⟩) :: bs) h' := .agg rfl (.cl rfl (.cl rfl (.ref h0 (f1v k f t i v r g) (.cl rfl .nil)))) x
theorem f1x (h0 : u1u h j = some (q, .row 79 11 (a.map (p4p true)))) (h1 : u1u ((j, (q, .dead)) :: h) j' = some (q', .row 79 11 (c.map (p4p true)))) (x : FinL ((j', (q', .dead)) :: (j, (q, .dead)) :: h) az bs h') :
  FinL h (.agg [pI R, .ref j q, .ref j' q', q3q true b] :: az) (.agg (a8n true ⟨R, a, c, b⟩) :: bs) h' := .agg rfl (.cl rfl (.ref h0 (Le.ow_map _ (fun _ => rfl) (fun _ => rfl)) (.ref h1 (Le.ow_map _ (fun _ => rfl) (fun _ => rfl)) (.cl rfl .nil)))) x

structure Rn where
 s : St
 sends : List Ev
 outs : List Ou
def f1y (s : St) (r n : Int) : St := if r = 0 then ⟨n.tmod 1000, s.y, s.count⟩ else ⟨s.x, n.tmod 1000, s.count⟩
theorem e9k (hc : c' = true → c = true) (l : List Op_) : Le k (f2l c l) (f2l c' l) := Le.rd_map l hc (fun _ => .cons (.cl rfl) (.cons (.cl rfl) (.cons (.cl rfl) (.cons (.cl rfl) (.cons (.cl rfl) .nil))))) (fun _ => rfl)
theorem e9l (hc : c' = true → c = true) (l : List Ru) : Le k (e8q c l) (e8q c' l) := Le.rd_map l hc (fun _ => .cons (.cl rfl) (.cons (e9k hc _) .nil)) (fun _ => rfl)

def e9r (a : Ap) : List Ap := [a, ⟨[]⟩, ⟨[]⟩, ⟨[]⟩]
theorem e1i (a : Ap) : Le k (.row .ow 121 1 [[e8q true a.rules], [.pv (.slice none 0 0)], [.pv (.slice none 0 0)], [.pv (.slice none 0 0)]]) (a6b false (e9r a)) :=
 Le.ow_map2 (f := fun o : Option Unit => match o with | some _ => [e8q true a.rules] | none => [.pv (.slice none 0 0)]) (f' := fun o : Option Unit => match o with | some _ => b9j false a | none => b9j false ⟨[]⟩) [some (), none, none, none] (fun h => by cases h) (fun o => match o with | some _ => .cons (e9l nfc _) .nil | none => .cons .nil .nil)
theorem e9m (h : a6w (e9r a)) : e0j a := h.2 a (List.mem_cons_self ..)
end
section
theorem a5h (r : Int) : a1r Tryz.prog 301 [.pv (.int .i64 r)] (.pv (.bool (decide (0 ≤ r ∧ r ≤ 1)))) := by
 refine pX Tryz.f301 [.pv (.bool (decide (0 ≤ r ∧ r ≤ 1)))] 0 ?_
 refine exR (x0x rfl (exR (x4x rfl (x9x rfl rfl rfl (u7u r 0 1) (x0x rfl (x6x ⟨.inr rfl, ?_⟩))))))
 exact y9y rfl rfl rfl
theorem c7d (o : Op_) : a1r Tryz.prog 270 [.agg (b7d o)] (.pv (.bool (decide (b0x o)))) := by
 refine a9s r6r (fn := Tryz.f270) (by kernel_rfl) (by kernel_rfl) rfl (outs := [.pv (.bool (decide (b0x o)))]) (by rfl) (a0q rfl) 1 ?_
 refine exR (u2u (id := 0) rfl rfl rfl (x0x rfl (x2x fun K1 hK1 => ?_)))
 refine exA 2 rfl rfl (y0y ?_)
 refine a0c (ι := Bool) (fun b γ1 => [(5, .pv (.bool (b)))]) (fun b γ1 => []) (fun b => b = decide (o.do' = 1 ∨ o.do' = 3)) (cK [1, 4] rfl) (y8y 0 rfl HE.nil) ?_ fun b γ1 hi => ?_
 ·refine exR (v6v rfl rfl rfl (x0x rfl (x7x rfl ?_ ?_)))<;>intro h<;>try simp at h
  ·refine x8x ?_
   exact ⟨_, (by (simp_all; done)), [], (y3y 5 rfl Cov.nil), (y3y 1 rfl (y3y 4 rfl Cov.nil)), HE.nil, (y8y 0 rfl HE.nil), rfl⟩
  refine exG ?_
  refine v6v rfl rfl rfl ?_
  refine x0x rfl ?_
  exact ⟨_, (by (show (_ : Bool) = _; rw [Bool.eq_iff_iff]; simp; omega)), [], (y3y 5 rfl Cov.nil), (y3y 1 rfl (y3y 4 rfl Cov.nil)), HE.nil, (y8y 0 rfl HE.nil), rfl⟩
 ·try dsimp only [b2o, b2p]
  subst hi
  refine x7x rfl ?_ ?_<;>intro h<;>try simp at h
  ·refine exA 2 rfl rfl (x9x rfl rfl rfl (a5h ..) (x4x rfl (z9z rfl rfl ?_ ?_)))<;>intro h<;>try simp at h
   ·refine x1x 14 rfl rfl (x6x ⟨.inr rfl, ?_⟩)
    refine y9y rfl ?_ rfl
    exact congrArg (fun b : Bool => [AV.pv (.bool b)]) ((decide_eq_false (by simp only [b0x, a3w, b4k]; omega)).symm)
   refine x1x 2 rfl rfl (z1z rfl rfl (x9x rfl rfl rfl (a5g ..) (x1x 2 rfl rfl (z9z rfl rfl ?_ ?_))))<;>intro h<;>try simp at h
   ·refine x1x 9 rfl rfl (x6x ⟨.inr rfl, ?_⟩)
    refine y9y rfl ?_ rfl
    exact congrArg (fun b : Bool => [AV.pv (.bool b)]) ((decide_eq_false (by simp only [b0x, a3w, b4k]; omega)).symm)
   refine x1x 5 rfl rfl (z9z rfl rfl ?_ ?_)<;>intro h<;>try simp at h
   ·refine x1x 4 rfl rfl (x6x ⟨.inr rfl, ?_⟩)
    refine y9y rfl ?_ rfl
    exact congrArg (fun b : Bool => [AV.pv (.bool b)]) ((decide_eq_false (by simp only [b0x, a3w, b4k]; omega)).symm)
   refine x1x 5 rfl rfl (x6x ⟨.inr rfl, ?_⟩)
   refine y9y rfl ?_ rfl
   exact congrArg (fun b : Bool => [AV.pv (.bool b)]) (decide_eq_decide.2 (by simp only [b0x, a3w, b4k]; omega))
  refine exA 2 rfl rfl (x7x rfl ?_ ?_)<;>intro h<;>try simp at h
  ·refine exA 2 rfl rfl (x9x rfl rfl rfl (a5h ..) (x4x rfl (z9z rfl rfl ?_ ?_)))<;>intro h<;>try simp at h
   ·refine x1x 14 rfl rfl (x6x ⟨.inr rfl, ?_⟩)
    refine y9y rfl ?_ rfl
    exact congrArg (fun b : Bool => [AV.pv (.bool b)]) ((decide_eq_false (by simp only [b0x, a3w, b4k]; omega)).symm)
   refine x1x 2 rfl rfl (z1z rfl rfl (x9x rfl rfl rfl (a5h ..) (x1x 2 rfl rfl (z9z rfl rfl ?_ ?_))))<;>intro h<;>try simp at h
   ·refine x1x 9 rfl rfl (x6x ⟨.inr rfl, ?_⟩)
    refine y9y rfl ?_ rfl
    exact congrArg (fun b : Bool => [AV.pv (.bool b)]) ((decide_eq_false (by simp only [b0x, a3w, b4k]; omega)).symm)
   refine x1x 5 rfl rfl (z9z rfl rfl ?_ ?_)<;>intro h<;>try simp at h
   ·refine x1x 4 rfl rfl (x6x ⟨.inr rfl, ?_⟩)
    refine y9y rfl ?_ rfl
    exact congrArg (fun b : Bool => [AV.pv (.bool b)]) ((decide_eq_false (by simp only [b0x, a3w, b4k]; omega)).symm)
   refine x1x 5 rfl rfl (x6x ⟨.inr rfl, ?_⟩)
   refine y9y rfl ?_ rfl
   exact congrArg (fun b : Bool => [AV.pv (.bool b)]) (decide_eq_decide.2 (by simp only [b0x, a3w, b4k]; omega))
  refine a0c (ι := Bool) (fun b γ2 => [(46, .pv (.bool (b)))]) (fun b γ2 => []) (fun b => b = decide (o.do' = 4 ∨ o.do' = 7)) (cK [1, 4] rfl) (y8y 0 rfl HE.nil) ?_ fun b γ2 hi => ?_
  ·refine exR (v6v rfl rfl rfl (x0x rfl (x7x rfl ?_ ?_)))<;>intro h<;>try simp at h
   ·refine x8x ?_
    exact ⟨_, (by (simp_all; done)), [], (y3y 46 rfl Cov.nil), (y3y 1 rfl (y3y 4 rfl Cov.nil)), HE.nil, (y8y 0 rfl HE.nil), rfl⟩
   refine exG ?_
   refine x1x 2 rfl rfl ?_
   exact ⟨_, (by (show (_ : Bool) = _; rw [Bool.eq_iff_iff]; simp; omega)), [], (y3y 46 rfl Cov.nil), (y3y 1 rfl (y3y 4 rfl Cov.nil)), HE.nil, (y8y 0 rfl HE.nil), rfl⟩
  ·try dsimp only [b2o, b2p]
   subst hi
   refine x7x rfl ?_ ?_<;>intro h<;>try simp at h
   ·refine exA 2 rfl rfl (x9x rfl rfl rfl (a5h ..) (x4x rfl (z9z rfl rfl ?_ ?_)))<;>intro h<;>try simp at h
    ·refine x1x 14 rfl rfl (x6x ⟨.inr rfl, ?_⟩)
     refine y9y rfl ?_ rfl
     exact congrArg (fun b : Bool => [AV.pv (.bool b)]) ((decide_eq_false (by simp only [b0x, a3w, b4k]; omega)).symm)
    refine x1x 5 rfl rfl (z9z rfl rfl ?_ ?_)<;>intro h<;>try simp at h
    ·refine x1x 9 rfl rfl (x6x ⟨.inr rfl, ?_⟩)
     refine y9y rfl ?_ rfl
     exact congrArg (fun b : Bool => [AV.pv (.bool b)]) ((decide_eq_false (by simp only [b0x, a3w, b4k]; omega)).symm)
    refine x1x 5 rfl rfl (z9z rfl rfl ?_ ?_)<;>intro h<;>try simp at h
    ·refine x1x 4 rfl rfl (x6x ⟨.inr rfl, ?_⟩)
     refine y9y rfl ?_ rfl
     exact congrArg (fun b : Bool => [AV.pv (.bool b)]) ((decide_eq_false (by simp only [b0x, a3w, b4k]; omega)).symm)
    refine x1x 5 rfl rfl (x6x ⟨.inr rfl, ?_⟩)
    refine y9y rfl ?_ rfl
    exact congrArg (fun b : Bool => [AV.pv (.bool b)]) (decide_eq_decide.2 (by simp only [b0x, a3w, b4k]; omega))
   refine exA 2 rfl rfl (x7x rfl ?_ ?_)<;>intro h<;>try simp at h
   ·refine exA 2 rfl rfl (x9x rfl rfl rfl (a5h ..) (x4x rfl (z9z rfl rfl ?_ ?_)))<;>intro h<;>try simp at h
    ·refine x1x 14 rfl rfl (x6x ⟨.inr rfl, ?_⟩)
     refine y9y rfl ?_ rfl
     exact congrArg (fun b : Bool => [AV.pv (.bool b)]) ((decide_eq_false (by simp only [b0x, a3w, b4k]; omega)).symm)
    refine x1x 2 rfl rfl (z1z rfl rfl (x9x rfl rfl rfl (a5g ..) (x1x 2 rfl rfl (z9z rfl rfl ?_ ?_))))<;>intro h<;>try simp at h
    ·refine x1x 9 rfl rfl (x6x ⟨.inr rfl, ?_⟩)
     refine y9y rfl ?_ rfl
     exact congrArg (fun b : Bool => [AV.pv (.bool b)]) ((decide_eq_false (by simp only [b0x, a3w, b4k]; omega)).symm)
    refine x1x 2 rfl rfl (z1z rfl rfl (x9x rfl rfl rfl (u7u ..) (x1x 2 rfl rfl (z9z rfl rfl ?_ ?_))))<;>intro h<;>try simp at h
    ·refine x1x 4 rfl rfl (x6x ⟨.inr rfl, ?_⟩)
     refine y9y rfl ?_ rfl
     exact congrArg (fun b : Bool => [AV.pv (.bool b)]) ((decide_eq_false (by simp only [b0x, a3w, b4k]; omega)).symm)
    refine x1x 5 rfl rfl (x6x ⟨.inr rfl, ?_⟩)
    refine y9y rfl ?_ rfl
    exact congrArg (fun b : Bool => [AV.pv (.bool b)]) (decide_eq_decide.2 (by simp only [b0x, a3w, b4k]; omega))
   refine exA 2 rfl rfl (y4y rfl ?_ ?_)<;>intro h<;>try simp at h
   ·refine x8x (hK1 _ _ (exR (x0x rfl (x6x ⟨.inr rfl, ?_⟩))))
    refine y9y rfl ?_ rfl
    exact congrArg (fun b : Bool => [AV.pv (.bool b)]) ((decide_eq_false (by simp only [b0x, a3w, b4k]; omega)).symm)
   refine exA 2 rfl rfl (x9x rfl rfl rfl (a4h ..) (x4x rfl (z9z rfl rfl ?_ ?_)))<;>intro h<;>try simp at h
   ·refine x1x 14 rfl rfl (x6x ⟨.inr rfl, ?_⟩)
    refine y9y rfl ?_ rfl
    exact congrArg (fun b : Bool => [AV.pv (.bool b)]) ((decide_eq_false (by simp only [b0x, a3w, b4k]; omega)).symm)
   refine x1x 2 rfl rfl (z1z rfl rfl (x9x rfl rfl rfl (u7u ..) (x1x 2 rfl rfl (z9z rfl rfl ?_ ?_))))<;>intro h<;>try simp at h
   ·refine x1x 9 rfl rfl (x6x ⟨.inr rfl, ?_⟩)
    refine y9y rfl ?_ rfl
    exact congrArg (fun b : Bool => [AV.pv (.bool b)]) ((decide_eq_false (by simp only [b0x, a3w, b4k]; omega)).symm)
   refine x1x 2 rfl rfl (z1z rfl rfl (x9x rfl rfl rfl (u7u ..) (x1x 2 rfl rfl (z9z rfl rfl ?_ ?_))))<;>intro h<;>try simp at h
   ·refine x1x 4 rfl rfl (x6x ⟨.inr rfl, ?_⟩)
    refine y9y rfl ?_ rfl
    exact congrArg (fun b : Bool => [AV.pv (.bool b)]) ((decide_eq_false (by simp only [b0x, a3w, b4k]; omega)).symm)
   refine x1x 2 rfl rfl (z1z rfl rfl (x9x rfl rfl rfl (a5h ..) (x1x 2 rfl rfl (x6x ⟨.inr rfl, ?_⟩))))
   refine y9y rfl ?_ rfl
   exact congrArg (fun b : Bool => [AV.pv (.bool b)]) (decide_eq_decide.2 (by simp only [b0x, a3w, b4k]; omega))
theorem b2y (c : Bool) (r : Ru) (hl : r.ops.length ≤ 1048576) : a1r Tryz.prog 203 [.agg (d1r c r)] (.pv (.bool (kb (c7j r)))) := by
 refine pX Tryz.f203 [.pv (.bool (kb (c7j r)))] 1 ?_
 refine exR (u2u (id := 0) rfl rfl rfl (x0x rfl (exR (x0x rfl (exR (x0x rfl (x2x fun K1 hK1 => ?_)))))))
 refine exR (x0x rfl (y0y ?_))
 refine z2z (ι := Nat) (fun i γ1 => [(3, pI (c4w (r.ops.take i) : Int)), (4, pI (d5o (r.ops.take i) : Int)), (5, pI (i : Int))]) (fun i γ1 => []) (fun i => i ≤ r.ops.length ∧ ∀ (j : Nat) o, j < i → r.ops[j]? = some o → b0x o) (fun i => r.ops.length - i) (y3y 1 rfl Cov.nil) (y8y 0 rfl HE.nil) 0 ⟨by omega, fun j o hj => by omega⟩ [] (Cov.cons' (t := 3) rfl (by rfl) (Cov.cons' (t := 4) rfl (by rfl) (y3y 5 rfl Cov.nil))) hv rfl fun i γ1 hi => ?_
 obtain ⟨k1, k2⟩ := hi
 refine x2x fun K2 hK2 => ?_
 refine exA 3 rfl rfl (z3z rfl a5p rfl (v6v rfl rfl rfl (y4y rfl ?_ ?_)))<;>intro h<;>try simp at h
 ·obtain rfl : i = r.ops.length := by omega
  rw [List.take_length]
  have hall : ∀ o ∈ r.ops, b0x o := fun o ho => by obtain ⟨j, hj⟩ := List.getElem?_of_mem ho; exact k2 j o (List.getElem?_eq_some_iff.1 hj).1 hj
  refine z4z (hK1 _ _ (exA 2 rfl rfl (z3z rfl a5p rfl (x1x 2 rfl rfl (z9z rfl rfl ?_ ?_)))))<;>intro h<;>try simp at h
  ·refine x1x 7 rfl rfl (x6x ⟨.inr rfl, ?_⟩)
   refine y9y rfl ?_ rfl
   exact congrArg (fun b : Bool => [AV.pv (.bool b)]) (a5l fun q => by have := q.2; omega)
  refine x1x 4 rfl rfl (z9z rfl rfl ?_ ?_)<;>intro h<;>try simp at h
  ·refine x1x 3 rfl rfl (x6x ⟨.inr rfl, ?_⟩)
   refine y9y rfl ?_ rfl
   exact congrArg (fun b : Bool => [AV.pv (.bool b)]) (a5l fun q => by have := q.2; omega)
  refine x1x 4 rfl rfl (x6x ⟨.inr rfl, ?_⟩)
  refine y9y rfl ?_ rfl
  exact congrArg (fun b : Bool => [AV.pv (.bool b)]) (e7m (by rw [decide_eq_true_iff]; exact ⟨fun q => ⟨hall, by omega, by omega, by omega⟩, fun q => by have := q.2; omega⟩))
 obtain ⟨o, ho⟩ := gE r.ops i
 have hs6 := d1q r.ops i
 have hs7 := d5p r.ops i
 refine x8x (hK2 _ _ (x2x fun K4 hK4 => ?_))
 refine y0y (x2x fun K5 hK5 => ?_)
 refine exA 3 rfl rfl (y7y rfl rfl a5p rfl a1e rfl ho (u5u rfl a1e rfl rfl (x9x rfl rfl rfl (c7d ..) (a1s rfl (x7x rfl ?_ ?_)))))<;>intro hc6<;>try simp at hc6
 ·have fX : ¬ c7j r := fun q => by have := q.1 o (List.mem_of_getElem? ho); simp_all
  refine exR (x0x rfl (x6x ⟨.inr rfl, ?_⟩))
  refine y9y rfl ?_ rfl
  exact congrArg (fun b : Bool => [AV.pv (.bool b)]) (a5l fX)
 have hoo : b0x o := by simpa using hc6
 refine x8x (hK5 _ _ (x2x fun K7 hK7 => ?_))
 refine exA 3 rfl rfl (y7y rfl rfl a5p rfl a1e rfl ho (x1x 3 rfl rfl (y4y rfl ?_ ?_)))<;>intro hc8<;>try simp at hc8
 ·have h6 : ¬ o.do' = 6 := hc8
  refine x8x (hK7 _ _ (exA 3 rfl rfl (y7y rfl rfl a5p rfl a1e rfl ho (x1x 3 rfl rfl (y4y rfl ?_ ?_)))))<;>intro hc10<;>try simp at hc10
  ·have h7 : ¬ o.do' = 7 := hc10
   refine x8x (hK4 _ _ (exG (x4x rfl (z5z (b := 1) rfl rfl (by omega) (x0x rfl ?_)))))
   exact ⟨i + 1, ⟨⟨by omega, fun j q hj hq => by by_cases e : j = i; (subst e; rw [ho] at hq; cases hq; exact hoo); exact k2 j q (by omega) hq⟩, by omega⟩, [], (Cov.cons' (t := 3) rfl (by rw [w1w ho, b0y]; (rw [if_neg h6]; rfl)) (Cov.cons' (t := 4) rfl (by rw [w1w ho, b3s]; (rw [if_neg h7]; rfl)) (y3y 5 rfl Cov.nil))), cv, hv, hv, rfl⟩
  have h7 : o.do' = 7 := hc10
  refine exG (x4x rfl (z5z (b := 1) rfl rfl (by omega) (x0x rfl (hK4 _ _ (exG (x4x rfl (z5z (b := 1) rfl rfl (by omega) (x0x rfl ?_))))))))
  exact ⟨i + 1, ⟨⟨by omega, fun j q hj hq => by by_cases e : j = i; (subst e; rw [ho] at hq; cases hq; exact hoo); exact k2 j q (by omega) hq⟩, by omega⟩, [], (Cov.cons' (t := 3) rfl (by rw [w1w ho, b0y]; (rw [if_neg h6]; rfl)) (Cov.cons' (t := 4) rfl (by rw [w1w ho, b3s]; (rw [if_pos h7]; done)) (y3y 5 rfl Cov.nil))), cv, hv, hv, rfl⟩
 have h6 : o.do' = 6 := hc8
 refine exG (x4x rfl (z5z (b := 1) rfl rfl (by omega) (x0x rfl (hK7 _ _ (exA 3 rfl rfl (y7y rfl rfl a5p rfl a1e rfl ho (x1x 3 rfl rfl (y4y rfl ?_ ?_))))))))<;>intro hc9<;>try simp at hc9
 ·have h7 : ¬ o.do' = 7 := hc9
  refine x8x (hK4 _ _ (exG (x4x rfl (z5z (b := 1) rfl rfl (by omega) (x0x rfl ?_)))))
  exact ⟨i + 1, ⟨⟨by omega, fun j q hj hq => by by_cases e : j = i; (subst e; rw [ho] at hq; cases hq; exact hoo); exact k2 j q (by omega) hq⟩, by omega⟩, [], (Cov.cons' (t := 3) rfl (by rw [w1w ho, b0y]; (rw [if_pos h6]; done)) (Cov.cons' (t := 4) rfl (by rw [w1w ho, b3s]; (rw [if_neg h7]; rfl)) (y3y 5 rfl Cov.nil))), cv, hv, hv, rfl⟩
 have h7 : o.do' = 7 := hc9
 refine exG (x4x rfl (z5z (b := 1) rfl rfl (by omega) (x0x rfl (hK4 _ _ (exG (x4x rfl (z5z (b := 1) rfl rfl (by omega) (x0x rfl ?_))))))))
 exact ⟨i + 1, ⟨⟨by omega, fun j q hj hq => by by_cases e : j = i; (subst e; rw [ho] at hq; cases hq; exact hoo); exact k2 j q (by omega) hq⟩, by omega⟩, [], (Cov.cons' (t := 3) rfl (by rw [w1w ho, b0y]; (rw [if_pos h6]; done)) (Cov.cons' (t := 4) rfl (by rw [w1w ho, b3s]; (rw [if_pos h7]; done)) (y3y 5 rfl Cov.nil))), cv, hv, hv, rfl⟩
theorem a8w (c : Bool) (l : List Ap) (hb : ∀ a ∈ l, ∀ r ∈ a.rules, r.ops.length ≤ 1048576) : a1r Tryz.prog 87 [a6b c l] (.pv (.bool (kb (a6w l)))) := by
 refine pX Tryz.f87 [.pv (.bool (kb (a6w l)))] 0 ?_
 refine exR (x0x rfl (x2x fun K1 hK1 => ?_))
 refine exR (x4x rfl (z3z rfl b1x rfl (v6v rfl rfl rfl (x7x rfl ?_ ?_))))<;>intro h<;>try simp at h
 ·have fX : ¬ a6w l := fun q => by have := q.1; omega
  refine exR (x0x rfl (x6x ⟨.inr rfl, ?_⟩))
  refine y9y rfl ?_ rfl
  exact congrArg (fun b : Bool => [AV.pv (.bool b)]) (a5l fX)
 have h4 : l.length = 4 := by omega
 refine x8x (hK1 _ _ (x2x fun K3 hK3 => ?_))
 refine exR (x0x rfl (y0y ?_))
 refine z2z (ι := Nat) (fun i γ1 => [(3, pI (i : Int))]) (fun i γ1 => []) (fun i => i ≤ l.length ∧ ∀ (j : Nat) a, j < i → l[j]? = some a → e0j a) (fun i => l.length - i) (y3y 0 rfl Cov.nil) HE.nil 0 ⟨by omega, fun j a hj => by omega⟩ [] cv hv rfl fun i γ1 hi => ?_
 obtain ⟨k1, k2⟩ := hi
 refine x2x fun K4 hK4 => ?_
 refine exA 2 rfl rfl (z3z rfl b1x rfl (v6v rfl rfl rfl (y4y rfl ?_ ?_)))<;>intro h<;>try simp at h
 ·obtain rfl : i = l.length := by omega
  have hT : a6w l := ⟨h4, fun a ha => by obtain ⟨j, hj⟩ := List.getElem?_of_mem ha; exact k2 j a (List.getElem?_eq_some_iff.1 hj).1 hj⟩
  refine z4z (hK3 _ _ (exR (x0x rfl (x6x ⟨.inr rfl, ?_⟩))))
  refine y9y rfl ?_ rfl
  exact congrArg (fun b : Bool => [AV.pv (.bool b)]) (e1v hT)
 obtain ⟨a, ha⟩ := gE l i
 refine x8x (hK4 _ _ (x2x fun K6 hK6 => ?_))
 refine y0y (exA 2 rfl rfl (y7y rfl rfl b1x rfl a1y rfl ha (x1x 3 rfl rfl (x2x fun K7 hK7 => ?_))))
 refine exR (x4x rfl (z3z rfl a5d rfl (v6v rfl rfl rfl (x7x rfl ?_ ?_))))<;>intro h<;>try simp at h
 ·have fX : ¬ a6w l := fun q => by have := (q.2 a (List.mem_of_getElem? ha)).1; omega
  refine exR (x0x rfl (x6x ⟨.inr rfl, ?_⟩))
  refine y9y rfl ?_ rfl
  exact congrArg (fun b : Bool => [AV.pv (.bool b)]) (a5l fX)
 have h5 : a.rules.length ≤ 4 := by omega
 refine x8x (hK7 _ _ (exR (x0x rfl (y0y ?_))))
 refine z2z (ι := Nat) (fun k γ2 => [(5, pI (k : Int))]) (fun k γ2 => []) (fun k => k ≤ a.rules.length ∧ c7i a.rules (fun j r => (0 ≤ r.kind ∧ r.kind ≤ 3) ∧ c7j r ∧ ∀ p, 0 < j → a.rules[j - 1]? = some p → p.kind < r.kind) k) (fun k => a.rules.length - k) (cK [0, 3, 4] rfl) HE.nil 0 ⟨by omega, a2i⟩ [] cv hv rfl fun k γ2 hi => ?_
 obtain ⟨k3, k4⟩ := hi
 refine x2x fun K9 hK9 => ?_
 refine exA 2 rfl rfl (z3z rfl a5d rfl (v6v rfl rfl rfl (y4y rfl ?_ ?_)))<;>intro h<;>try simp at h
 ·obtain rfl : k = a.rules.length := by omega
  have hap : e0j a := ⟨h5, fun j r hj => a3q k4 (Nat.le_refl _) j r hj⟩
  refine z4z (hK6 _ _ (exG (x4x rfl (z5z (b := 1) rfl rfl (by omega) (x0x rfl ?_)))))
  exact ⟨i + 1, ⟨⟨by omega, fun j q hj hq => by by_cases e : j = i; (subst e; rw [ha] at hq; cases hq; exact hap); exact k2 j q (by omega) hq⟩, by omega⟩, [], cv, cv, hv, hv, rfl⟩
 obtain ⟨r, hr⟩ := gE a.rules k
 refine x8x (hK9 _ _ (x2x fun K11 hK11 => ?_))
 refine y0y (exD (x1x 2 rfl rfl (y7y rfl rfl a5d rfl a5q rfl hr (x1x 2 rfl rfl (x9x rfl rfl rfl (u7u ..) (x1x 2 rfl rfl (z9z rfl rfl ?_ ?_)))))))<;>intro h<;>try simp at h
 ·have fR : ¬ ((0 ≤ r.kind ∧ r.kind ≤ 3) ∧ c7j r ∧ ∀ p, 0 < k → a.rules[k - 1]? = some p → p.kind < r.kind) := by (rintro ⟨q1, q2, q3⟩; omega)
  refine x1x 24 rfl rfl ⟨by kernel_rfl, x7x rfl (fun hc18 => ?_) (fun hc18 => ?_)⟩
  rotate_left
  ·simp at hc18
  try simp at hc18
  have fX : ¬ a6w l := fun q => fR ((q.2 a (List.mem_of_getElem? ha)).2 k r hr)
  refine exR (x0x rfl (x6x ⟨.inr rfl, ?_⟩))
  refine y9y rfl ?_ rfl
  exact congrArg (fun b : Bool => [AV.pv (.bool b)]) (a5l fX)
 refine x1x 2 rfl rfl (z1z rfl rfl (y7y rfl rfl a5d rfl a5q rfl hr (z1z rfl rfl (u5u rfl a5q rfl rfl (z1z rfl rfl (x9x rfl rfl rfl (b2y c r (hb a (List.mem_of_getElem? ha) r (List.mem_of_getElem? hr))) ?_))))))
 refine x1x 3 rfl rfl (z9z rfl rfl ?_ ?_)<;>intro hg13<;>try simp at hg13
 ·have hnr : ¬ c7j r := a0k (by simpa using hg13)
  have fR : ¬ ((0 ≤ r.kind ∧ r.kind ≤ 3) ∧ c7j r ∧ ∀ p, 0 < k → a.rules[k - 1]? = some p → p.kind < r.kind) := by (rintro ⟨q1, q2, q3⟩; exact absurd q2 hnr)
  refine x1x 16 rfl rfl ⟨by kernel_rfl, x7x rfl (fun hc17 => ?_) (fun hc17 => ?_)⟩
  rotate_left
  ·simp at hc17
  try simp at hc17
  have fX : ¬ a6w l := fun q => fR ((q.2 a (List.mem_of_getElem? ha)).2 k r hr)
  refine exR (x0x rfl (x6x ⟨.inr rfl, ?_⟩))
  refine y9y rfl ?_ rfl
  exact congrArg (fun b : Bool => [AV.pv (.bool b)]) (a5l fX)
 have hru : c7j r := a1o.1 (by simpa using hg13)
 refine x1x 3 rfl rfl (z9z rfl rfl ?_ ?_)<;>intro h<;>try simp at h
 ·have hR : ((0 ≤ r.kind ∧ r.kind ≤ 3) ∧ c7j r ∧ ∀ p, 0 < k → a.rules[k - 1]? = some p → p.kind < r.kind) := ⟨by omega, hru, fun p h0 => by omega⟩
  refine x1x 13 rfl rfl ⟨by kernel_rfl, x7x rfl (fun hc16 => ?_) (fun hc16 => ?_)⟩
  ·simp at hc16
  try simp at hc16
  refine x8x (hK11 _ _ (exG (x4x rfl (z5z (b := 1) rfl rfl (by omega) (x0x rfl ?_)))))
  exact ⟨k + 1, ⟨⟨by omega, a0i k4 hr hR⟩, by omega⟩, [], cv, cv, hv, hv, rfl⟩
 have k0 : 0 < k := by omega
 obtain ⟨p, hp⟩ := gE a.rules (k - 1)
 refine x1x 2 rfl rfl (z1z rfl rfl (a0h (b := 1) rfl rfl (by omega) (by omega) (z1z rfl rfl (y7y rfl rfl a5d rfl a5q rfl hp (x1x 4 rfl rfl (z1z rfl rfl (y7y rfl rfl a5d rfl a5q rfl hr (x1x 5 rfl rfl ⟨by kernel_rfl, y4y rfl ?_ ?_⟩))))))))<;>intro h<;>try simp at h
 ·have hR : ((0 ≤ r.kind ∧ r.kind ≤ 3) ∧ c7j r ∧ ∀ p, 0 < k → a.rules[k - 1]? = some p → p.kind < r.kind) := by exact ⟨by omega, hru, fun p2 h0 hp2 => by rw [hp] at hp2; cases hp2; omega⟩
  refine x8x (hK11 _ _ (exG (x4x rfl (z5z (b := 1) rfl rfl (by omega) (x0x rfl ?_)))))
  exact ⟨k + 1, ⟨⟨by omega, a0i k4 hr hR⟩, by omega⟩, [], cv, cv, hv, hv, rfl⟩
 have fR : ¬ ((0 ≤ r.kind ∧ r.kind ≤ 3) ∧ c7j r ∧ ∀ p, 0 < k → a.rules[k - 1]? = some p → p.kind < r.kind) := by (rintro ⟨q1, q2, q3⟩; (have := q3 p (by omega) hp; omega))
 have fX : ¬ a6w l := fun q => fR ((q.2 a (List.mem_of_getElem? ha)).2 k r hr)
 refine exR (x0x rfl (x6x ⟨.inr rfl, ?_⟩))
 refine y9y rfl ?_ rfl
 exact congrArg (fun b : Bool => [AV.pv (.bool b)]) (a5l fX)
end
section
theorem a2h (S : Rn) (e : Ev) (r : Int) : Meth Tryz.prog 338 3 [0, 1, 2] [.ptr 0 0 0, .pv (.int .i64 r)] [(0, (0, .box 362 [pI S.s.x, pI S.s.y, pI S.s.count, pI e.time, pI e.to, pI e.from', pI e.count, pI e.n, pI e.kind, pI e.arg, .ref 1 0, .ref 2 0])), (1, (0, .row 56 7 ((S.sends).map v5v))), (2, (0, .row 141 5 ((S.outs).map a0w)))] (.pv (.int .i64 (if r = 0 then S.s.x else S.s.y))) [] := by
 refine mX Tryz.f338 [.pv (.int .i64 (if r = 0 then S.s.x else S.s.y))] 3 0 fun γ => ?_
 refine exR (x0x rfl (x2x fun K1 hK1 => ?_))
 refine exA 2 rfl rfl (x7x rfl ?_ ?_)<;>intro hc2<;>try simp at hc2
 ·have k : r = 0 := hc2
  refine exA 6 rfl rfl (x6x ?_)
  exact ⟨.inr rfl, [γ 0, γ 1, γ 2], rfl, congrArg (fun v : Int => some [AV.pv (.int .i64 v)]) (if_pos k).symm, hv⟩
 have k : ¬ r = 0 := hc2
 refine x8x (hK1 _ _ (exA 6 rfl rfl (x6x ?_)))
 exact ⟨.inr rfl, [γ 0, γ 1, γ 2], rfl, congrArg (fun v : Int => some [AV.pv (.int .i64 v)]) (if_neg k).symm, hv⟩
theorem a4y (S : Rn) (e : Ev) (r n : Int) : Meth Tryz.prog 337 3 [0, 1, 2] [.ptr 0 0 0, .pv (.int .i64 r), .pv (.int .i64 n)] [(0, (0, .box 362 [pI S.s.x, pI S.s.y, pI S.s.count, pI e.time, pI e.to, pI e.from', pI e.count, pI e.n, pI e.kind, pI e.arg, .ref 1 0, .ref 2 0])), (1, (0, .row 56 7 ((S.sends).map v5v))), (2, (0, .row 141 5 ((S.outs).map a0w)))] (.tup []) [(0, (0, .box 362 [pI (f1y S.s r n).x, pI (f1y S.s r n).y, pI (f1y S.s r n).count, pI e.time, pI e.to, pI e.from', pI e.count, pI e.n, pI e.kind, pI e.arg, .ref 1 0, .ref 2 0]))] := by
 refine mX Tryz.f337 [] 3 0 fun γ => ?_
 refine exA 2 rfl rfl (x7x rfl ?_ ?_)<;>intro hc1<;>try simp at hc1
 ·have k : r = 0 := hc1
  refine exG (x1x 2 rfl rfl (p5p rfl rfl rfl (x1x 3 rfl rfl (z0z rfl rfl q1q rfl rfl rfl rfl rfl (by simp only [a1h]; rfl) ?_))))
  exact ⟨.inl rfl, [γ 0, γ 1, γ 2], rfl, rfl, HE.box rfl (by unfold f1y; rw [if_pos k]; rfl) (HE.same rfl (HE.same rfl HE.nil))⟩
 have k : ¬ r = 0 := hc1
 refine exG (x1x 2 rfl rfl (p5p rfl rfl rfl (x1x 3 rfl rfl (z0z rfl rfl q1q rfl rfl rfl rfl rfl (by simp only [a1h]; rfl) ?_))))
 exact ⟨.inl rfl, [γ 0, γ 1, γ 2], rfl, rfl, HE.box rfl (by unfold f1y; rw [if_neg k]; rfl) (HE.same rfl (HE.same rfl HE.nil))⟩
theorem c2e (S : Rn) (e : Ev) (o : Op_) (ho : b0x o) (hs : S.sends.length ≤ 1000) (hu : S.outs.length ≤ 1000) : MethE Tryz.prog 336 3 [.ptr 0 0 0, .agg (b7d o)] [(0, (0, .box 362 [pI S.s.x, pI S.s.y, pI S.s.count, pI e.time, pI e.to, pI e.from', pI e.count, pI e.n, pI e.kind, pI e.arg, .ref 1 0, .ref 2 0])), (1, (0, .row 56 7 ((S.sends).map v5v))), (2, (0, .row 141 5 ((S.outs).map a0w)))] (ι := Rn × Int) (fun S' => S'.1.sends.length ≤ S.sends.length + 1 ∧ S'.1.outs.length ≤ S.outs.length + 1 ∧ (∀ q ∈ S'.1.outs, q ∈ S.outs ∨ q.time = e.time) ∧ 0 ≤ S'.2 ∧ S'.2 ≤ 8) (fun S' => [0]) (fun S' => .pv (.int .i64 S'.2)) (fun S' => [(0, (0, .box 362 [pI S'.1.s.x, pI S'.1.s.y, pI S'.1.s.count, pI e.time, pI e.to, pI e.from', pI e.count, pI e.n, pI e.kind, pI e.arg, .ref 1 0, .ref 2 0])), (1, (0, .row 56 7 ((S'.1.sends).map v5v))), (2, (0, .row 141 5 ((S'.1.outs).map a0w)))]) := by
 refine mE (ι := Rn × Int) Tryz.f336 (fun S' => [.pv (.int .i64 S'.2)]) 3 5 fun γ => ?_
 refine exR (u2u (id := 3) rfl rfl rfl (x0x rfl (x2x fun K1 hK1 => ?_)))
 refine exA 2 rfl rfl (y0y (exA 2 rfl rfl (x7x rfl ?_ ?_)))<;>intro u<;>try simp at u
 ·refine exG (x1x 5 rfl rfl ?_)
  refine rlM [0, 1, 2] [_, _, _] (a4y S e (o.a) (o.b)) rfl rfl rfl ?_
  refine hK1 _ _ ?_
  refine exR ?_
  refine x0x rfl ?_
  refine x6x ?_
  exact ⟨.inr rfl, (⟨⟨_, _, _⟩, S.sends, S.outs⟩, 0), ⟨by exact Nat.le_succ _, by exact Nat.le_succ _, by exact (fun q h => .inl h), by show (0 : Int) ≤ 0; omega, by show (0 : Int) ≤ 8; omega⟩, [γ 0, _, _], rfl, rfl, HE.box rfl rfl (HE.row rfl rfl (HE.row rfl rfl HE.nil))⟩
 refine exA 2 rfl rfl (x7x rfl ?_ ?_)<;>intro u<;>try simp at u
 ·refine exH (x1x 6 rfl rfl ?_)
  refine rlM [0, 1, 2] [_, _, _] (a2h S e (o.a)) rfl rfl rfl ?_
  refine x1x 3 rfl rfl ?_
  refine rlM [0, 1, 2] [_, _, _] (a2h S e (o.b)) rfl rfl rfl ?_
  refine p5p rfl rfl rfl ?_
  refine rlM [0, 1, 2] [_, _, _] (a4y S e (o.a) (IntKind.i64.wrap ((if o.a = 0 then S.s.x else S.s.y) + (if o.b = 0 then S.s.x else S.s.y)))) rfl rfl rfl ?_
  refine ⟨by kernel_rfl, ?_⟩
  refine hK1 _ _ ?_
  refine exR ?_
  refine x0x rfl ?_
  refine x6x ?_
  exact ⟨.inr rfl, (⟨⟨_, _, _⟩, S.sends, S.outs⟩, 0), ⟨by exact Nat.le_succ _, by exact Nat.le_succ _, by exact (fun q h => .inl h), by show (0 : Int) ≤ 0; omega, by show (0 : Int) ≤ 8; omega⟩, [γ 0, _, _], rfl, rfl, HE.box rfl rfl (HE.row rfl rfl (HE.row rfl rfl HE.nil))⟩
 refine exA 2 rfl rfl (x7x rfl ?_ ?_)<;>intro u<;>try simp at u
 ·refine exH (x1x 6 rfl rfl ?_)
  refine rlM [0, 1, 2] [_, _, _] (a2h S e (o.a)) rfl rfl rfl ?_
  refine x1x 2 rfl rfl (p5p rfl rfl rfl ?_)
  refine rlM [0, 1, 2] [_, _, _] (a4y S e (o.a) (IntKind.i64.wrap ((if o.a = 0 then S.s.x else S.s.y) + o.b))) rfl rfl rfl ?_
  refine ⟨by kernel_rfl, ?_⟩
  refine hK1 _ _ ?_
  refine exR ?_
  refine x0x rfl ?_
  refine x6x ?_
  exact ⟨.inr rfl, (⟨⟨_, _, _⟩, S.sends, S.outs⟩, 0), ⟨by exact Nat.le_succ _, by exact Nat.le_succ _, by exact (fun q h => .inl h), by show (0 : Int) ≤ 0; omega, by show (0 : Int) ≤ 8; omega⟩, [γ 0, _, _], rfl, rfl, HE.box rfl rfl (HE.row rfl rfl (HE.row rfl rfl HE.nil))⟩
 refine exA 2 rfl rfl (x7x rfl ?_ ?_)<;>intro u<;>try simp at u
 ·refine exH (x1x 8 rfl rfl ?_)
  refine rlM [0, 1, 2] [_, _, _] (a4y S e (o.a) (e.arg)) rfl rfl rfl ?_
  refine ⟨by kernel_rfl, ?_⟩
  refine hK1 _ _ ?_
  refine exR ?_
  refine x0x rfl ?_
  refine x6x ?_
  exact ⟨.inr rfl, (⟨⟨_, _, _⟩, S.sends, S.outs⟩, 0), ⟨by exact Nat.le_succ _, by exact Nat.le_succ _, by exact (fun q h => .inl h), by show (0 : Int) ≤ 0; omega, by show (0 : Int) ≤ 8; omega⟩, [γ 0, _, _], rfl, rfl, HE.box rfl rfl (HE.row rfl rfl (HE.row rfl rfl HE.nil))⟩
 refine exA 2 rfl rfl (x7x rfl ?_ ?_)<;>intro hc6<;>try simp at hc6
 ·have k5 : o.do' = 5 := hc6
  have hoc : 1 ≤ o.c ∧ o.c ≤ 8 := by unfold b0x at ho; omega
  refine exD (x1x 3 rfl rfl ?_)
  refine rlM [0, 1, 2] [_, _, _] (a2h S e (o.a)) rfl rfl rfl ?_
  refine x1x 3 rfl rfl ⟨by kernel_rfl, x7x rfl ?_ ?_⟩<;>intro u<;>try simp at u
  ·refine exA 3 rfl rfl (x6x ?_)
   exact ⟨.inr rfl, (⟨⟨_, _, _⟩, S.sends, S.outs⟩, o.c), ⟨by exact Nat.le_succ _, by exact Nat.le_succ _, by exact (fun q h => .inl h), by show (0 : Int) ≤ o.c; omega, by show (o.c : Int) ≤ 8; omega⟩, [γ 0, _, _], rfl, rfl, hv⟩
  refine x8x (hK1 _ _ (exR (x0x rfl (x6x ?_))))
  exact ⟨.inr rfl, (⟨⟨_, _, _⟩, S.sends, S.outs⟩, 0), ⟨by exact Nat.le_succ _, by exact Nat.le_succ _, by exact (fun q h => .inl h), by show (0 : Int) ≤ 0; omega, by show (0 : Int) ≤ 8; omega⟩, [γ 0, _, _], rfl, rfl, hv⟩
 refine exA 2 rfl rfl (y4y rfl ?_ ?_)<;>intro u<;>try simp at u
 ·refine exA 2 rfl rfl (y4y rfl ?_ ?_)<;>intro u<;>try simp at u
  ·refine x8x (hK1 _ _ (exR (x0x rfl (x6x ?_))))
   exact ⟨.inr rfl, (⟨⟨_, _, _⟩, S.sends, S.outs⟩, 0), ⟨by exact Nat.le_succ _, by exact Nat.le_succ _, by exact (fun q h => .inl h), by show (0 : Int) ≤ 0; omega, by show (0 : Int) ≤ 8; omega⟩, [γ 0, _, _], rfl, rfl, hv⟩
  refine exH (x1x 24 rfl rfl ?_)
  refine a1j (n := S.outs.length) rfl r3r rfl rfl (List.length_map _) ?_
  refine x1x 3 rfl rfl ?_
  refine rlM [0, 1, 2] [_, _, _] (a2h S e (o.a)) rfl rfl rfl ?_
  refine rlB w7w c4j ?_
  refine u3u (id := 6) r3r rfl w7w rfl rfl rfl rfl rfl rfl ?_
  refine u6u (zs := (S.outs ++ [(Ou.mk e.time e.to S.s.count (S.outs.length : Int) (if o.a = 0 then S.s.x else S.s.y))]).map a0w) rfl rfl r3r rfl w7w rfl rfl rfl rfl (by rfl) (w2w a0w S.outs (Ou.mk e.time e.to S.s.count (S.outs.length : Int) (if o.a = 0 then S.s.x else S.s.y))) (by (simp only [a1c, a0m, a0u, a0v, a1z, a4b, T141]; omega)) ?_
  refine x1x 2 rfl rfl (z0z rfl rfl r3r rfl rfl rfl rfl rfl (by simp only [a1h]; rfl) ?_)
  refine ⟨by kernel_rfl, hK1 _ _ (exR (x0x rfl (x6x ?_)))⟩
  exact ⟨.inr rfl, (⟨⟨_, _, _⟩, S.sends, S.outs ++ [(Ou.mk e.time e.to S.s.count (S.outs.length : Int) (if o.a = 0 then S.s.x else S.s.y))]⟩, 0), ⟨by exact Nat.le_succ _, by simp, by exact (fun q h => by rcases List.mem_append.1 h with h | h; exact .inl h; exact .inr (by rw [List.mem_singleton.1 h])), by show (0 : Int) ≤ 0; omega, by show (0 : Int) ≤ 8; omega⟩, [γ 0, _, _], rfl, rfl, hv⟩
 refine exD (x1x 7 rfl rfl (p5p rfl rfl rfl (v6v rfl rfl rfl ⟨by kernel_rfl, y4y rfl ?_ ?_⟩)))<;>intro u<;>try simp at u
 ·refine x8x (hK1 _ _ (exR (x0x rfl (x6x ?_))))
  exact ⟨.inr rfl, (⟨⟨_, _, _⟩, S.sends, S.outs⟩, 0), ⟨by exact Nat.le_succ _, by exact Nat.le_succ _, by exact (fun q h => .inl h), by show (0 : Int) ≤ 0; omega, by show (0 : Int) ≤ 8; omega⟩, [γ 0, _, _], rfl, rfl, hv⟩
 refine exH (x1x 12 rfl rfl (p5p rfl rfl rfl (x1x 16 rfl rfl ?_)))
 refine a1j (n := S.sends.length) rfl u8u rfl rfl (List.length_map _) ?_
 refine x1x 5 rfl rfl ?_
 refine rlM [0, 1, 2] [_, _, _] (a2h S e (o.d)) rfl rfl rfl ?_
 refine rlB z6z a8z ?_
 refine u3u (id := 4) u8u rfl z6z rfl rfl rfl rfl rfl rfl ?_
 refine u6u (zs := (S.sends ++ [(Ev.mk (IntKind.i64.wrap (e.time + o.c)) o.a e.to S.s.count (S.sends.length : Int) o.b (if o.d = 0 then S.s.x else S.s.y))]).map v5v) rfl rfl u8u rfl z6z rfl rfl rfl rfl (by rfl) (w2w v5v S.sends (Ev.mk (IntKind.i64.wrap (e.time + o.c)) o.a e.to S.s.count (S.sends.length : Int) o.b (if o.d = 0 then S.s.x else S.s.y))) (by (simp only [a1c, a0m, a0u, a0v, a1z, a4b, T56]; omega)) ?_
 refine x1x 2 rfl rfl (z0z rfl rfl u8u rfl rfl rfl rfl rfl (by simp only [a1h]; rfl) ?_)
 refine ⟨by kernel_rfl, hK1 _ _ (exR (x0x rfl (x6x ?_)))⟩
 exact ⟨.inr rfl, (⟨⟨_, _, _⟩, S.sends ++ [(Ev.mk (IntKind.i64.wrap (e.time + o.c)) o.a e.to S.s.count (S.sends.length : Int) o.b (if o.d = 0 then S.s.x else S.s.y))], S.outs⟩, 0), ⟨by simp, by exact Nat.le_succ _, by exact (fun q h => .inl h), by show (0 : Int) ≤ 0; omega, by show (0 : Int) ≤ 8; omega⟩, [γ 0, _, _], rfl, rfl, hv⟩
theorem c7e (a : Ap) (s : St) (e : Ev) (hb : ∀ r ∈ a.rules, r.ops.length ≤ 1048576) : MethE Tryz.prog 335 0 [.agg (b9j true a), .agg (a4t s), .agg (v5v e)] [] (ι := Rn) (fun S' => S'.sends.length ≤ 32 ∧ S'.outs.length ≤ 32 ∧ ∀ q ∈ S'.outs, q.time = e.time) (fun S' => []) (fun S' => .tup [.agg (a4t S'.s), a2e true S'.sends, a0t true S'.outs]) (fun S' => []) := by
 refine mE (ι := Rn) Tryz.f335 (fun S' => [.agg (a4t S'.s), a2e true S'.sends, a0t true S'.outs]) 0 12 fun γ => ?_
 refine exR (u2u (id := 0) rfl rfl rfl (u2u (id := 1) rfl rfl rfl (u2u (id := 2) rfl rfl rfl (y6y (id := 3) a2c c7w rfl (x1x 2 rfl rfl (x2x fun K1 hK1 => ?_))))))
 refine exR (x5x rfl a1y rfl rfl rfl (rlB a1y b3y ?_))
 refine rlB a1y b3y ?_
 refine rlB a1y b3y ?_
 refine a0d (id := 4) b1x rfl a1y rfl rfl rfl rfl (.val rfl rfl (.val rfl rfl (.val rfl rfl (.val rfl rfl .nil)))) rfl (a0q rfl) (a0q rfl) (a0q rfl) rfl rfl ?_
 refine b7s rfl rfl rfl (.ref rfl (e1i a) .nil) (a8w false (e9r a) (by intro x hx; simp only [e9r, List.mem_cons, List.not_mem_nil, or_false] at hx; rcases hx with rfl | rfl | rfl | rfl <;> first | exact hb | (intro r hr; cases hr))) (.pv _) ?_
 refine x1x 2 rfl rfl (z9z rfl rfl ?_ ?_)<;>intro hg2<;>try simp at hg2
 ·refine x1x 8 rfl rfl (x7x rfl (fun hc17 => ?_) (fun hc17 => ?_))
  rotate_left
  ·simp at hc17
  try simp at hc17
  refine exR (rlB a2c c7w ?_)
  refine z8z (id := 5) u8u rfl z6z rfl (z8z (id := 6) r3r rfl w7w rfl (x3x rfl rfl a2c rfl rfl rfl rfl (x1x 2 rfl rfl ?_)))
  refine a0l (f := v5v) (l := []) 7 rfl rfl (fun _ => rfl) ?_
  refine a0l (f := a0w) (l := []) 8 rfl rfl (fun _ => rfl) ?_
  refine x6x ?_
  exact ⟨.inr rfl, ⟨⟨0, 0, 0⟩, [], []⟩, ⟨Nat.zero_le _, Nat.zero_le _, fun q h => by cases h⟩, [], rfl, rfl, hv⟩
 have fA : e0j a := e9m (a1o.1 (by simpa using hg2))
 refine x5x rfl a2c rfl rfl rfl (z1z rfl rfl (x9x rfl rfl rfl (a7c ..) (x1x 3 rfl rfl (z9z rfl rfl ?_ ?_))))<;>intro u<;>try simp at u
 ·refine x1x 3 rfl rfl (x7x rfl (fun hc16 => ?_) (fun hc16 => ?_))
  rotate_left
  ·simp at hc16
  try simp at hc16
  refine exR (rlB a2c c7w ?_)
  refine z8z (id := 5) u8u rfl z6z rfl (z8z (id := 6) r3r rfl w7w rfl (x3x rfl rfl a2c rfl rfl rfl rfl (x1x 2 rfl rfl ?_)))
  refine a0l (f := v5v) (l := []) 7 rfl rfl (fun _ => rfl) ?_
  refine a0l (f := a0w) (l := []) 8 rfl rfl (fun _ => rfl) ?_
  refine x6x ?_
  exact ⟨.inr rfl, ⟨⟨0, 0, 0⟩, [], []⟩, ⟨Nat.zero_le _, Nat.zero_le _, fun q h => by cases h⟩, [], rfl, rfl, hv⟩
 refine x5x rfl z6z rfl rfl rfl (z1z rfl rfl (x9x rfl rfl rfl (a7d ..) (x1x 2 rfl rfl (x7x rfl ?_ ?_))))<;>intro u<;>try simp at u
 ·refine exR (rlB a2c c7w ?_)
  refine z8z (id := 5) u8u rfl z6z rfl (z8z (id := 6) r3r rfl w7w rfl (x3x rfl rfl a2c rfl rfl rfl rfl (x1x 2 rfl rfl ?_)))
  refine a0l (f := v5v) (l := []) 7 rfl rfl (fun _ => rfl) ?_
  refine a0l (f := a0w) (l := []) 8 rfl rfl (fun _ => rfl) ?_
  refine x6x ?_
  exact ⟨.inr rfl, ⟨⟨0, 0, 0⟩, [], []⟩, ⟨Nat.zero_le _, Nat.zero_le _, fun q h => by cases h⟩, [], rfl, rfl, hv⟩
 refine x8x (hK1 _ _ (x2x fun K5 hK5 => ?_))
 refine exA 3 rfl rfl (x7x rfl ?_ ?_)<;>intro u<;>try simp at u
 ·refine exR (x5x rfl a2c rfl rfl rfl (z8z (id := 7) u8u rfl z6z rfl (z8z (id := 8) r3r rfl w7w rfl (x3x rfl rfl a2c rfl rfl rfl rfl (x1x 2 rfl rfl ?_)))))
  refine a0l (f := v5v) (l := []) 7 rfl rfl (fun _ => rfl) ?_
  refine a0l (f := a0w) (l := []) 8 rfl rfl (fun _ => rfl) ?_
  refine x6x ?_
  exact ⟨.inr rfl, ⟨s, [], []⟩, ⟨Nat.zero_le _, Nat.zero_le _, fun q h => by cases h⟩, [], rfl, rfl, hv⟩
 refine x8x (hK5 _ _ (exA 2 rfl rfl (z8z (id := 9) u8u rfl z6z rfl (z8z (id := 10) r3r rfl w7w rfl (rlB f0e f0k ?_)))))
 refine u2u (id := 11) rfl rfl rfl (x0x rfl (x2x fun K7 hK7 => ?_))
 refine exR (x0x rfl (y0y ?_))
 refine z2z (ι := Rn × Nat) (fun p γ1 => [(10, pI (p.2 : Int))]) (fun p γ1 => [(9, ((γ1 9), .row 56 7 ((p.1.sends).map v5v))), (10, ((γ1 10), .row 141 5 ((p.1.outs).map a0w))), (11, ((0 + 1), .box 362 [pI p.1.s.x, pI p.1.s.y, pI p.1.s.count, pI e.time, pI e.to, pI e.from', pI e.count, pI e.n, pI e.kind, pI e.arg, .ref 9 (γ1 9), .ref 10 (γ1 10)]))]) (fun p => p.2 ≤ a.rules.length ∧ p.1.sends.length ≤ 8 * p.2 ∧ p.1.outs.length ≤ 8 * p.2 ∧ ∀ q ∈ p.1.outs, q.time = e.time) (fun p => a.rules.length - p.2) (cK [3, 5, 6, 9] rfl) (hK [0, 1, 2, 3, 4, 5, 6, 7, 8] rfl) (⟨s, [], []⟩, 0) ⟨Nat.zero_le _, Nat.zero_le _, Nat.zero_le _, fun q h => by cases h⟩ [0, 0, 0, 0, 0, 0, 0, 0, 0, _, _] cv (HE.row rfl (by rfl) (HE.row rfl (by rfl) (HE.box rfl (by rfl) HE.nil))) rfl fun p γ1 hi => ?_
 obtain ⟨S, i⟩ := p
 obtain ⟨h1, h2, h3, h4⟩ := hi
 dsimp only at h1 h2 h3 h4 ⊢
 refine x2x fun K8 hK8 => ?_
 refine exA 3 rfl rfl (z3z rfl a5d rfl (v6v rfl rfl rfl (y4y rfl ?_ ?_)))<;>intro u<;>try simp at u
 ·have ha4 := fA.1
  refine z4z (hK7 _ _ (exA 6 rfl rfl (p5p rfl rfl rfl (x1x 3 rfl rfl (z0z rfl rfl q1q rfl rfl rfl rfl rfl (by simp only [a1h]; rfl) ?_)))))
  refine exD (x1x 12 rfl rfl (x3x rfl rfl a2c rfl rfl rfl rfl (x1x 2 rfl rfl ⟨by kernel_rfl, a0l 7 rfl rfl (fun _ => rfl) ?_⟩)))
  refine a0l 8 rfl rfl (fun _ => rfl) ?_
  refine x6x ?_
  exact ⟨.inr rfl, ⟨⟨S.s.x, S.s.y, IntKind.i64.wrap (S.s.count + 1)⟩, S.sends, S.outs⟩, ⟨by show S.sends.length ≤ 32; omega, by show S.outs.length ≤ 32; omega, by exact h4⟩, [], rfl, rfl, hv⟩
 obtain ⟨r, hr⟩ := gE a.rules i
 have hro := fA.2 i r hr
 have hr8 := hro.2.1.2.1
 have ha4 := fA.1
 refine x8x (hK8 _ _ (x2x fun K10 hK10 => ?_))
 refine y0y (x2x fun K11 hK11 => ?_)
 refine exD (x1x 3 rfl rfl (y7y rfl rfl a5d rfl a5q rfl hr (x1x 5 rfl rfl ⟨by kernel_rfl, x7x rfl ?_ ?_⟩)))<;>intro u<;>try simp at u
 ·refine z4z (hK10 _ _ (exG (x4x rfl (z5z (b := 1) rfl rfl (by omega) (x0x rfl ?_)))))
  exact ⟨(S, i + 1), ⟨(by exact ⟨by show i + 1 ≤ _; omega, by show S.sends.length ≤ 8 * (i + 1); omega, by show S.outs.length ≤ 8 * (i + 1); omega, h4⟩), (by show a.rules.length - (i + 1) < a.rules.length - i; omega)⟩, [0, 0, 0, 0, 0, 0, 0, 0, 0, _, _], cv, cv, hv, hv, rfl⟩
 refine x8x (hK11 _ _ (exA 3 rfl rfl (y7y rfl rfl a5d rfl a5q rfl hr (x1x 3 rfl rfl (exR (x0x rfl (y0y ?_)))))))
 refine z2z (ι := Rn × Nat × Nat) (fun p γ2 => [(12, pI (p.2.1 : Int))]) (fun p γ2 => [(9, ((γ2 9), .row 56 7 ((p.1.sends).map v5v))), (10, ((γ2 10), .row 141 5 ((p.1.outs).map a0w))), (11, ((0 + 1), .box 362 [pI p.1.s.x, pI p.1.s.y, pI p.1.s.count, pI e.time, pI e.to, pI e.from', pI e.count, pI e.n, pI e.kind, pI e.arg, .ref 9 (γ2 9), .ref 10 (γ2 10)]))]) (fun p => p.2.1 ≤ 20 ∧ p.2.2 ≤ p.2.1 ∧ p.2.2 ≤ 8 ∧ p.1.sends.length ≤ 8 * i + p.2.2 ∧ p.1.outs.length ≤ 8 * i + p.2.2 ∧ ∀ q ∈ p.1.outs, q.time = e.time) (fun p => 20 - p.2.1) (cK [3, 5, 6, 9, 10, 11] rfl) (hK [0, 1, 2, 3, 4, 5, 6, 7, 8] rfl) (S, 0, 0) ⟨Nat.zero_le _, Nat.le_refl _, Nat.zero_le _, h2, h3, h4⟩ [0, 0, 0, 0, 0, 0, 0, 0, 0, _, _] cv hv rfl fun p γ2 hi => ?_
 obtain ⟨S, k, m⟩ := p
 obtain ⟨k1, k2, k3, k3a, k4, k5⟩ := hi
 dsimp only at k1 k2 k3 k3a k4 k5 ⊢
 refine x2x fun K13 hK13 => ?_
 refine exA 2 rfl rfl (z3z rfl a5p rfl (v6v rfl rfl rfl (y4y rfl ?_ ?_)))<;>intro u<;>try simp at u
 ·refine z4z (hK10 _ _ (exG (x4x rfl (z5z (b := 1) rfl rfl (by omega) (x0x rfl ?_)))))
  exact ⟨(S, i + 1), ⟨(by exact ⟨by show i + 1 ≤ _; omega, by show S.sends.length ≤ 8 * (i + 1); omega, by show S.outs.length ≤ 8 * (i + 1); omega, k5⟩), (by show a.rules.length - (i + 1) < a.rules.length - i; omega)⟩, [0, 0, 0, 0, 0, 0, 0, 0, 0, _, _], cv, cv, hv, hv, rfl⟩
 obtain ⟨o, ho⟩ := gE r.ops k
 have hok := hro.2.1.1 o (List.mem_of_getElem? ho)
 refine x8x (hK13 _ _ (x2x fun K15 hK15 => ?_))
 refine y0y (a7m fun B X0 w0 => ?_)
 refine txR 6 rfl rfl (x1x 4 rfl rfl (y7y rfl rfl a5p rfl a1e rfl ho ?_))
 refine w4w (out := .agg (b7d o)) rfl a1e rfl ?_
 refine txM [11, 9, 10] [_, _, _] (c2e S e o hok (by omega) (by omega)) rfl rfl rfl rfl fun j hj => ?_
 obtain ⟨q1, q2, q3, q4, q5⟩ := hj
 obtain ⟨sk, hsk⟩ : ∃ sk : Nat, j.2 = (sk : Int) := ⟨j.2.toNat, by omega⟩
 rw [hsk]
 refine txR 2 rfl rfl (z5z rfl rfl (by omega) (x0x rfl (v9v rfl (hK15 _ _ (exG (x4x rfl (z5z (b := 1) rfl rfl (by omega) (x0x rfl ?_))))))))
 exact ⟨(j.1, k + sk + 1, m + 1), ⟨(by exact ⟨by show k + sk + 1 ≤ 20; omega, by show m + 1 ≤ k + sk + 1; omega, by show m + 1 ≤ 8; omega, by show j.1.sends.length ≤ 8 * i + (m + 1); omega, by show j.1.outs.length ≤ 8 * i + (m + 1); omega, fun q hq => (q3 q hq).elim (k5 q) (fun h => h)⟩), (by show 20 - (k + sk + 1) < 20 - k; omega)⟩, [0, 0, 0, 0, 0, 0, 0, 0, 0, _, _], cv, cv, hv, hv, rfl⟩
end
section
theorem a3l (c : Bool) (l : La) (f t : Nat) (hlen : l.done.length ≤ 1000000) (hf : f ≤ 1000000) (ht : t ≤ 1000000) (hb : ∀ p ∈ l.done, p.sends.length ≤ 1000000 ∧ p.outs.length ≤ 1000000) : a1r Tryz.prog 110 [.agg (a0j c l), .pv (.int .i64 (f : Int)), .pv (.int .i64 (t : Int))] (.agg (a0j true (a2q l f t))) := by
 refine pX Tryz.f110 [.agg (a0j true (a2q l f t))] 11 ?_
 refine exR (u2u (id := 0) rfl rfl rfl (y6y (id := 1) v7v a9t rfl (exA 4 rfl rfl (rlB v7v a9t ?_))))
 refine y6y (id := 2) v7v a9t rfl (x3x rfl rfl v7v rfl rfl rfl rfl (x2x fun K1 hK1 => ?_))
 refine exA 2 rfl rfl (y0y (a2d 2 4 10 58 12 rfl rfl rfl rfl rfl ?_))
 refine z2z (ι := Nat) (fun i γ1 => [(8, pI (i : Int))]) (fun i γ1 => [(10, ((γ1 10), .row 58 12 (((l.done.take i).drop f).map (a3n true)))), (2, ((0 + 1), .box 44 [pI l.proc, pI l.base.x, pI l.base.y, pI l.base.count, .ref 10 (γ1 10)])), (3, ((γ1 3), .dead)), (4, ((γ1 4), .dead)), (5, ((γ1 5), .dead)), (6, ((γ1 6), .dead)), (7, ((γ1 7), .dead)), (8, ((γ1 8), .dead)), (9, ((γ1 9), .dead))]) (fun i => f ≤ i ∧ (i = f ∨ (i ≤ t ∧ i ≤ l.done.length))) (fun i => l.done.length - i) (cK [2, 3, 6, 7] rfl) (hK [0, 1] rfl) f ⟨Nat.le_refl _, .inl rfl⟩ [0, 0, 0, _, _, _, _, _, _, _, _] cv (HE.row rfl (by rw [List.drop_of_length_le (by rw [List.length_take]; omega)]; rfl) (HE.box rfl rfl (HE.kill rfl (HE.kill rfl (HE.kill rfl (HE.kill rfl (HE.kill rfl (HE.kill rfl (HE.kill rfl HE.nil))))))))) rfl fun i γ1 hi => ?_
 obtain ⟨k1, k2⟩ := hi
 refine x2x fun K2 hK2 => ?_
 refine exA 4 rfl rfl (z9z rfl rfl ?_ ?_)<;>intro h<;>try simp at h
 ·refine x1x 5 rfl rfl (x7x rfl (fun hc6 => ?_) (fun hc6 => ?_))
  ·simp at hc6
  try simp at hc6
  have hfin : (l.done.take i).drop f = (l.done.take t).drop f := c6f k1 k2 (by omega)
  refine z4z (hK1 _ _ (exR (x5x rfl v7v rfl rfl rfl (x3x rfl rfl v7v rfl rfl rfl rfl (x6x ⟨.inr rfl, ?_⟩)))))
  rw [a2q, ← hfin]
  exact ⟨_, _, rfl, .agg rfl (.cl rfl (.cl rfl (.cl rfl (.cl rfl (.ref rfl (Le.ow_map _ (fun _ => rfl) (fun _ => rfl)) .nil))))) .nil⟩
 refine x1x 3 rfl rfl (z1z rfl rfl (z3z rfl r9r rfl (x1x 2 rfl rfl (y4y rfl ?_ ?_))))<;>intro h<;>try simp at h
 ·have hfin : (l.done.take i).drop f = (l.done.take t).drop f := c6f k1 k2 (by omega)
  refine z4z (hK1 _ _ (exR (x5x rfl v7v rfl rfl rfl (x3x rfl rfl v7v rfl rfl rfl rfl (x6x ⟨.inr rfl, ?_⟩)))))
  rw [a2q, ← hfin]
  exact ⟨_, _, rfl, .agg rfl (.cl rfl (.cl rfl (.cl rfl (.cl rfl (.ref rfl (Le.ow_map _ (fun _ => rfl) (fun _ => rfl)) .nil))))) .nil⟩
 obtain ⟨p, hp⟩ := gE l.done i
 have g1 : i < t := by omega
 obtain ⟨hps, hpo⟩ := hb p (List.mem_of_getElem? hp)
 refine x8x (hK2 _ _ (x2x fun K5 hK5 => ?_))
 refine y0y (exA 3 rfl rfl (y7y rfl rfl r9r rfl a0g rfl hp (u5u rfl a0g rfl rfl (y6y (id := 3) a0g c5i rfl (x3x rfl rfl a0g rfl rfl rfl rfl (exH (x1x 3 rfl rfl ?_)))))))
 refine v2v (out := .agg (v5v p.ev)) rfl z6z rfl rfl ?_
 refine y1y rfl a0g rfl rfl a2c rfl rfl ?_
 refine v2v (out := .agg (a4t p.after)) rfl a2c rfl rfl ?_
 refine z8z (id := 4) u8u rfl z6z rfl (x1x 2 rfl rfl ?_)
 refine a2j r6r (zs := (p.sends).map v5v) rfl rfl u8u rfl z6z rfl rfl rfl (w3w (fun _ => rfl) _) rfl (by (simp only [a1c, a0m, a0u, a0v, a1z, a4b, b2n, T56]; omega)) (Le.ow_map _ (fun _ => rfl) (fun _ => rfl)) ?_
 refine z8z (id := 6) r3r rfl w7w rfl (x1x 2 rfl rfl ?_)
 refine a2j r6r (zs := (p.outs).map a0w) rfl rfl r3r rfl w7w rfl rfl rfl (w3w (fun _ => rfl) _) rfl (by (simp only [a1c, a0m, a0u, a0v, a1z, a4b, b2n, T141]; omega)) (Le.ow_map _ (fun _ => rfl) (fun _ => rfl)) ?_
 refine rlB a0g c5i ?_
 refine u3u (id := 8) r9r rfl a0g rfl rfl rfl rfl rfl rfl ?_
 refine u6u (zs := ((l.done.take i).drop f ++ [p]).map (a3n true)) rfl rfl r9r rfl a0g rfl rfl rfl rfl (by rfl) (w2w _ _ _) (by (simp only [a1c, a0m, a0u, a0v, a1z, a4b, b2n, T58]; omega)) ?_
 refine y1y rfl v7v rfl rfl r9r rfl rfl (z0z rfl rfl r9r rfl rfl rfl rfl rfl (by simp only [a1h]; rfl) ?_)
 refine ⟨by kernel_rfl, hK5 _ _ (exG (x4x rfl (z5z (b := 1) rfl rfl (by omega) (x0x rfl ?_))))⟩
 exact ⟨i + 1, ⟨⟨by omega, .inr ⟨by omega, by omega⟩⟩, by omega⟩, [0, 0, 0, _, _, _, _, _, _, _, _], cv, cv, (HE.row rfl (by rw [w1w hp, List.drop_append_of_le_length (by rw [List.length_take]; omega)]) (HE.box rfl rfl (HE.kill rfl (HE.kill rfl (HE.kill rfl (HE.kill rfl (HE.kill rfl (HE.kill rfl (HE.kill rfl HE.nil))))))))), hv, rfl⟩
theorem a6h (c : Bool) (n : Nd) (hl : n.lanes.length ≤ 1000000) (hk : n.kept.length ≤ 1000000) (ho : n.outs.length ≤ 1000000) (hd : ∀ l ∈ n.lanes, lb l) : Meth Tryz.prog 155 3 [] [.agg (w5w c n)] [(0, (0, .dead)), (1, (0, .dead)), (2, (0, .dead))] (.agg [pI n.id, .pv (.bool n.up), pI n.inc, pI n.g, .ref 0 0, a2e true n.kept, a0t true n.outs, pI n.led, pI 0, .ref 1 0, .ref 2 0, pI 0, pI 41]) [(0, (0, .row 44 5 ((n.lanes.map s5s).map (a0j true)))), (1, (0, .row 190 3 ([vi0, vi0, vi0].map (a5k true)))), (2, (0, .row 3 1 ([0, 0, 0].map a8u)))] := by
 refine mX Tryz.f155 [.agg [pI n.id, .pv (.bool n.up), pI n.inc, pI n.g, .ref 0 0, a2e true n.kept, a0t true n.outs, pI n.led, pI 0, .ref 1 0, .ref 2 0, pI 0, pI 41]] 3 13 fun γ => ?_
 refine exR (u2u (id := 3) rfl rfl rfl (y6y (id := 4) y5y s9s rfl (exD (x1x 8 rfl rfl (z8z (id := 5) u8u rfl z6z rfl (x1x 2 rfl rfl ?_))))))
 refine a2j r6r (zs := (n.kept).map v5v) rfl rfl u8u rfl z6z rfl rfl rfl (w3w (fun _ => rfl) _) rfl (by (simp only [a1c, a0m, a0u, a0v, a1z, a4b, b2n, T56]; omega)) (Le.ow_map _ (fun _ => rfl) (fun _ => rfl)) ?_
 refine z8z (id := 7) r3r rfl w7w rfl (x1x 2 rfl rfl ?_)
 refine a2j r6r (zs := (n.outs).map a0w) rfl rfl r3r rfl w7w rfl rfl rfl (w3w (fun _ => rfl) _) rfl (by (simp only [a1c, a0m, a0u, a0v, a1z, a4b, b2n, T141]; omega)) (Le.ow_map _ (fun _ => rfl) (fun _ => rfl)) ?_
 refine x1x 2 rfl rfl (rlB y5y s9s ?_)
 refine y6y (id := 9) y5y s9s rfl (x3x rfl rfl y5y rfl rfl rfl rfl ⟨by kernel_rfl, x2x fun K1 hK1 => ?_⟩)
 refine exR (x0x rfl (y0y (a2d 9 4 0 44 5 rfl rfl rfl rfl rfl ?_)))
 refine z2z (ι := Nat) (fun i γ1 => [(4, pI (i : Int))]) (fun i γ1 => [(0, ((γ1 0), .row 44 5 (((n.lanes.take i).map s5s).map (a0j true)))), (9, ((0 + 1), .box 65 [pI n.id, .pv (.bool n.up), pI n.inc, pI n.g, .ref 0 (γ1 0), a2e true n.kept, a0t true n.outs, pI n.led, pI 0, .pv (.slice none 0 0), .pv (.slice none 0 0), pI 0, pI 41])), (10, ((γ1 10), .dead)), (11, ((γ1 11), .dead))]) (fun i => i ≤ n.lanes.length) (fun i => n.lanes.length - i) (cK [1, 2, 3] rfl) (hK [1, 2, 3, 4, 5, 6, 7, 8, 12, 13, 14, 15] rfl) 0 (by omega) [_, 0, 0, 0, 0, 0, 0, 0, 0, 0, _, _] cv (HE.row rfl (by rw [List.take_zero]; rfl) (HE.box rfl rfl (HE.kill rfl (HE.kill rfl HE.nil)))) rfl fun i γ1 hi => ?_
 refine x2x fun K2 hK2 => ?_
 refine exA 3 rfl rfl (z3z rfl r5r rfl (v6v rfl rfl rfl (x7x rfl ?_ ?_)))<;>intro h<;>try simp at h
 ·obtain ⟨a, ha⟩ := gE n.lanes i
  have had := hd a (List.mem_of_getElem? ha)
  refine x8x (hK2 _ _ (x2x fun K4 hK4 => ?_))
  refine y0y (exH (x1x 5 rfl rfl (y7y rfl rfl r5r rfl v7v rfl ha (u5u rfl v7v rfl rfl (x9x rfl rfl rfl (a3l c a 0 0 had.1 (by omega) (by omega) had.2) ?_)))))
  refine u3u (id := 10) r5r rfl v7v rfl rfl rfl rfl rfl rfl ?_
  refine u6u (zs := ((n.lanes.take i).map s5s ++ [s5s a]).map (a0j true)) rfl rfl r5r rfl v7v rfl rfl rfl rfl (by rfl) (w2w _ _ _) (by (simp only [a1c, a0m, a0u, a0v, a1z, a4b, b2n, T44]; omega)) ?_
  refine y1y rfl y5y rfl rfl r5r rfl rfl (z0z rfl rfl r5r rfl rfl rfl rfl rfl (by simp only [a1h]; rfl) ?_)
  refine ⟨by kernel_rfl, hK4 _ _ (exG (x4x rfl (p5p rfl rfl rfl (x0x rfl ?_))))⟩
  exact ⟨i + 1, ⟨by omega, by omega⟩, [_, 0, 0, 0, 0, 0, 0, 0, 0, 0, _, _], (Cov.cons' (t := 4) rfl (by rw [u4u (by omega) (by omega)]; rfl) Cov.nil), cv, (HE.row rfl (by simp only [w1w ha, List.map_append, List.map_cons, List.map_nil]) (HE.box rfl rfl (HE.kill rfl (HE.kill rfl HE.nil)))), hv, rfl⟩
 obtain rfl : i = n.lanes.length := by omega
 refine z4z (hK1 _ _ (x2x fun K5 hK5 => ?_))
 refine exR (x0x rfl (y0y (a2d 9 9 1 190 3 rfl rfl rfl rfl rfl (a2d 9 10 2 3 1 rfl rfl rfl rfl rfl ?_))))
 refine z2z (ι := Nat) (fun i γ2 => [(5, pI (i : Int))]) (fun i γ2 => [(1, ((γ2 1), .row 190 3 ((List.range i).map fun _ => b1i))), (2, ((γ2 2), .row 3 1 ((List.range i).map fun _ => a8u 0))), (9, ((0 + 1), .box 65 [pI n.id, .pv (.bool n.up), pI n.inc, pI n.g, .ref 0 (γ1 0), a2e true n.kept, a0t true n.outs, pI n.led, pI 0, .ref 1 (γ2 1), .ref 2 (γ2 2), pI 0, pI 41])), (12, ((γ2 12), .dead)), (13, ((γ2 13), .dead)), (14, ((γ2 14), .dead)), (15, ((γ2 15), .dead))]) (fun i => i ≤ 3) (fun i => 3 - i) (cK [2, 3] rfl) (hK [0, 3, 4, 5, 6, 7, 8, 10, 11] rfl) 0 (by omega) [0, _, _, 0, 0, 0, 0, 0, 0, 0, 0, 0, _, _, _, _] cv hv rfl fun i γ2 hi => ?_
 refine x2x fun K6 hK6 => ?_
 refine exA 2 rfl rfl (y4y rfl ?_ ?_)<;>intro h<;>try simp at h
 ·obtain rfl : i = 3 := by omega
  rw [List.take_length]
  refine z4z (hK5 _ _ (exR (x5x rfl y5y rfl rfl rfl (x3x rfl rfl y5y rfl rfl rfl rfl ?_))))
  refine c8k (f := fun _ => b1i) (f' := fun _ => a5k true vi0) (l := List.range 3) 1 rfl (fun _ => .same (.same (.le rfl .nil rfl .nil))) ?_
  refine x6x ?_
  exact ⟨.inr rfl, [_, _, _], rfl, rfl, hv⟩
 refine x8x (hK6 _ _ (x2x fun K8 hK8 => ?_))
 refine y0y (exA 2 rfl rfl (rlB q8q a9v ?_))
 refine u3u (id := 12) a0o rfl q8q rfl rfl rfl rfl rfl rfl ?_
 refine u6u (zs := (List.range i).map (fun _ => b1i) ++ [b1i]) rfl rfl a0o rfl q8q rfl rfl rfl rfl (by rfl) rfl (by (simp only [a1c, a0m, a0u, a0v, a1z, a4b, b2n, T190]; omega)) ?_
 refine y1y rfl y5y rfl rfl a0o rfl rfl (z0z rfl rfl a0o rfl rfl rfl rfl rfl (by simp only [a1h]; rfl) ?_)
 refine exG (x1x 2 rfl rfl (a9w (id := 14) q2q rfl q1q rfl rfl rfl rfl rfl ?_))
 refine u6u (zs := (List.range i).map (fun _ => a8u 0) ++ [a8u 0]) rfl rfl q2q rfl q1q rfl rfl rfl rfl (by rfl) rfl (by (simp only [a1c, a0m, a0u, a0v, a1z, a4b, b2n, T3]; omega)) ?_
 refine y1y rfl y5y rfl rfl q2q rfl rfl (z0z rfl rfl q2q rfl rfl rfl rfl rfl (by simp only [a1h]; rfl) ?_)
 refine hK8 _ _ (exG (x4x rfl (p5p rfl rfl rfl (x0x rfl ?_))))
 exact ⟨i + 1, ⟨by omega, by omega⟩, [0, _, _, 0, 0, 0, 0, 0, 0, 0, 0, 0, _, _, _, _], (Cov.cons' (t := 5) rfl (by rw [u4u (by omega) (by omega)]; rfl) Cov.nil), cv, (HE.row rfl (by rw [List.range_succ, List.map_append]; rfl) (HE.row rfl (by rw [List.range_succ, List.map_append]; rfl) (HE.box rfl rfl (HE.kill rfl (HE.kill rfl (HE.kill rfl (HE.kill rfl HE.nil))))))), hv, rfl⟩
end
section
theorem a5v (c : Bool) (l : La) (h : lb l) : a1r Tryz.prog 110 [.agg (a0j c l), .pv (.int .i64 ((0 : Nat) : Int)), .pv (.int .i64 (l.done.length : Int))] (.agg (a0j true l)) := by
 have := a3l c l 0 l.done.length h.1 (by omega) h.1 h.2
 rw [b5e] at this
 exact this
theorem u0u (c : Bool) (n : Nd) (h : nb n) : Meth Tryz.prog 161 3 [] [.agg (w5w c n)] [(0, (0, .dead)), (1, (0, .dead)), (2, (0, .dead))] (.agg [pI n.id, .pv (.bool n.up), pI n.inc, pI n.g, .ref 0 0, a2e true n.kept, a0t true n.outs, pI n.led, pI n.version, .ref 1 0, .ref 2 0, pI n.round, pI n.low]) [(0, (0, .row 44 5 ((n.lanes).map (a0j true)))), (1, (0, .row 190 3 ((n.views).map (a5k true)))), (2, (0, .row 3 1 (n.known.map a8u)))] := by
 refine mX Tryz.f161 [.agg [pI n.id, .pv (.bool n.up), pI n.inc, pI n.g, .ref 0 0, a2e true n.kept, a0t true n.outs, pI n.led, pI n.version, .ref 1 0, .ref 2 0, pI n.round, pI n.low]] 3 10 fun γ => ?_
 obtain ⟨b1, b2, b3, b4, b5, b6, b7⟩ := h
 refine exR (u2u (id := 3) rfl rfl rfl (y6y (id := 4) y5y s9s rfl (exR (x5x rfl y5y rfl rfl rfl ?_))))
 refine rlM [0, 11, 12] [_, _, _] (a6h c n b1 b2 b3 b4) rfl rfl rfl ?_
 refine y6y (id := 5) y5y s9s rfl (x3x rfl rfl y5y rfl rfl rfl rfl (x2x fun K1 hK1 => ?_))
 refine exR (x0x rfl (y0y ?_))
 refine z2z (ι := Nat) (fun i γ1 => [(4, pI (i : Int))]) (fun i γ1 => [(0, ((γ 0 + 1), .row 44 5 ((n.lanes.take i ++ (n.lanes.drop i).map s5s).map (a0j true))))]) (fun i => i ≤ n.lanes.length) (fun i => n.lanes.length - i) (cK [1, 2, 3] rfl) (hK [1, 2, 3, 4, 5, 6, 7, 8, 9, 10, 11, 12] rfl) 0 (by omega) [] cv (HE.row rfl (by rw [List.take_zero, List.drop_zero]; rfl) HE.nil) rfl fun i γ1 hi => ?_
 refine x2x fun K2 hK2 => ?_
 refine exA 3 rfl rfl (z3z rfl r5r rfl (v6v rfl rfl rfl (x7x rfl ?_ ?_)))<;>intro o<;>try simp at o
 ·obtain ⟨p, hp⟩ := gE n.lanes i
  have hpl := b4 p (List.mem_of_getElem? hp)
  have hAl : ((n.lanes.take i).map (a0j true)).length = i := by rw [List.length_map, List.length_take]; omega
  rw [s0s hp, List.map_cons, List.map_append, List.map_cons]
  refine x8x (hK2 _ _ (x2x fun K4 hK4 => ?_))
  refine y0y (exH (x1x 6 rfl rfl (y7y rfl rfl r5r rfl v7v rfl hp (x1x 4 rfl rfl (y7y rfl rfl r5r rfl v7v rfl hp (x1x 2 rfl rfl (z3z rfl r9r rfl (x9x rfl rfl rfl (a5v c p hpl) (c0r rfl rfl r5r rfl v7v rfl rfl hAl (c4n hAl rfl rfl v7v rfl rfl rfl rfl (a0b rfl) rfl ?_))))))))))
  refine ⟨by kernel_rfl, hK4 _ _ (exG (x4x rfl (p5p rfl rfl rfl (x0x rfl ?_))))⟩
  exact ⟨i + 1, ⟨by omega, by omega⟩, [], (Cov.cons' (t := 4) rfl (by rw [u4u (by omega) (by omega)]; rfl) Cov.nil), cv, (HE.row rfl (by simp only [w1w hp, List.map_append, List.append_assoc]; rfl) HE.nil), hv, rfl⟩
 obtain rfl : i = n.lanes.length := by omega
 rw [List.take_length, List.drop_length, List.map_nil, List.append_nil]
 refine z4z (hK1 _ _ (exA 3 rfl rfl (z0z rfl rfl q1q rfl rfl rfl rfl rfl (by simp only [a1h]; rfl) ?_)))
 refine exA 3 rfl rfl (z0z rfl rfl q1q rfl rfl rfl rfl rfl (by simp only [a1h]; rfl) ?_)
 refine exA 3 rfl rfl (z0z rfl rfl q1q rfl rfl rfl rfl rfl (by simp only [a1h]; rfl) ?_)
 refine exR (z8z (id := 1) a0o rfl q8q rfl (y1y rfl y5y rfl rfl a0o rfl rfl (z0z rfl rfl a0o rfl rfl rfl rfl rfl (by simp only [a1h]; rfl) ?_)))
 refine x2x fun K5 hK5 => ?_
 refine exR (x0x rfl (y0y ?_))
 refine z2z (ι := Nat) (fun j γ2 => [(5, pI (j : Int))]) (fun j γ2 => [(1, ((γ2 1), .row 190 3 ((n.views.take j).map (a5k true)))), (5, ((0 + 1), .box 65 [pI n.id, .pv (.bool n.up), pI n.inc, pI n.g, .ref 0 (γ 0 + 1), a2e true n.kept, a0t true n.outs, pI n.led, pI n.version, .ref 1 (γ2 1), .ref 12 (0 + 1), pI n.round, pI n.low])), (6, ((γ2 6), .dead)), (7, ((γ2 7), .dead)), (8, ((γ2 8), .dead)), (9, ((γ2 9), .dead))]) (fun j => j ≤ n.views.length) (fun j => n.views.length - j) (cK [1, 2, 3] rfl) (hK [0, 2, 3, 4, 10, 11, 12] rfl) 0 (by omega) [0, _, 0, 0, 0, 0, _, _, _, _] cv (HE.row rfl (by rw [List.take_zero]; rfl) (HE.box rfl rfl (HE.kill rfl (HE.kill rfl (HE.kill rfl (HE.kill rfl HE.nil)))))) rfl fun j γ2 hi => ?_
 refine x2x fun K6 hK6 => ?_
 refine exA 3 rfl rfl (z3z rfl a0o rfl (v6v rfl rfl rfl (y4y rfl ?_ ?_)))<;>intro o<;>try simp at o
 ·obtain rfl : j = n.views.length := by omega
  rw [List.take_length]
  refine z4z (hK5 _ _ (exR (z8z (id := 2) q2q rfl q1q rfl (x1x 2 rfl rfl ?_))))
  refine s4s (zs := n.known.map a8u) rfl rfl q2q rfl q1q rfl rfl rfl (w3w (fun _ => rfl) _) rfl (by (simp only [a1c, a0m, a0u, a0v, a1z, a4b, b2n, T3]; omega)) ?_
  refine y1y rfl y5y rfl rfl q2q rfl rfl (z0z rfl rfl q2q rfl rfl rfl rfl rfl (by simp only [a1h]; rfl) ?_)
  refine exR (x5x rfl y5y rfl rfl rfl (x3x rfl rfl y5y rfl rfl rfl rfl (x6x ?_)))
  exact ⟨.inr rfl, [_, _, _], rfl, rfl, hv⟩
 obtain ⟨v, hv⟩ := gE n.views j
 have hve := b6 v (List.mem_of_getElem? hv)
 refine x8x (hK6 _ _ (x2x fun K8 hK8 => ?_))
 refine y0y (exH (x1x 5 rfl rfl (y7y rfl rfl a0o rfl q8q rfl hv (x1x 5 rfl rfl (y7y rfl rfl a0o rfl q8q rfl hv (x1x 2 rfl rfl (z8z (id := 6) u8u rfl z6z rfl (x1x 3 rfl rfl (y7y rfl rfl a0o rfl q8q rfl hv (x1x 2 rfl rfl ?_))))))))))
 refine a2j r6r (zs := (v.events).map v5v) rfl rfl u8u rfl z6z rfl rfl rfl (w3w (fun _ => rfl) _) rfl (by (simp only [a1c, a0m, a0u, a0v, a1z, a4b, b2n, T56]; omega)) (Le.ow_map _ (fun _ => rfl) (fun _ => rfl)) ?_
 refine rlB q8q a9v ?_
 refine u3u (id := 8) a0o rfl q8q rfl rfl rfl rfl rfl rfl ?_
 refine u6u (zs := (n.views.take j ++ [v]).map (a5k true)) rfl rfl a0o rfl q8q rfl rfl rfl rfl (by rfl) (w2w _ _ _) (by (simp only [a1c, a0m, a0u, a0v, a1z, a4b, b2n, T190]; omega)) ?_
 refine y1y rfl y5y rfl rfl a0o rfl rfl (z0z rfl rfl a0o rfl rfl rfl rfl rfl (by simp only [a1h]; rfl) ?_)
 refine ⟨by kernel_rfl, hK8 _ _ (exG (x4x rfl (p5p rfl rfl rfl (x0x rfl ?_))))⟩
 exact ⟨j + 1, ⟨by omega, by omega⟩, [0, _, 0, 0, 0, 0, _, _, _, _], (Cov.cons' (t := 5) rfl (by rw [u4u (by omega) (by omega)]; rfl) Cov.nil), (y3y 1 rfl (y3y 2 rfl (y3y 3 rfl Cov.nil))), (HE.row rfl (by rw [w1w hv]) (HE.box rfl rfl (HE.kill rfl (HE.kill rfl (HE.kill rfl (HE.kill rfl HE.nil)))))), (y8y 0 rfl (y8y 2 rfl (y8y 3 rfl (y8y 4 rfl (y8y 10 rfl (y8y 11 rfl (y8y 12 rfl HE.nil))))))), rfl⟩
end
section
theorem c3o (c c' : Bool) (l : La) (s : List Ev) : a1r Tryz.prog 291 [.agg (a0j c l), a2e c' s] (.pv (.bool (kb (b2j l s)))) := by
 refine pX Tryz.f291 [.pv (.bool (kb (b2j l s)))] 1 ?_
 refine exR (u2u (id := 0) rfl rfl rfl (x0x rfl (x2x fun K1 hK1 => ?_)))
 refine exR (x4x rfl (x9x rfl rfl rfl (a4i ..) (x9x rfl rfl rfl (a4c ..) (a1s rfl (x7x rfl ?_ ?_)))))<;>intro hc2<;>try simp at hc2
 ·try have hX : ¬ a7k okE a2z s 100 = true := by simpa using hc2
  refine exR (x0x rfl (x6x ⟨.inr rfl, ?_⟩))
  refine y9y rfl ?_ rfl
  exact congrArg (fun b : Bool => [AV.pv (.bool b)]) (a5l (fun h => hX h.1))
 have hA : a7k okE a2z s 100 = true := hc2
 refine x8x (hK1 _ _ (x2x fun K3 hK3 => ?_))
 refine exR (x0x rfl (y0y (r1r 1 rfl fun hlen => ?_)))
 refine z2z (ι := Nat) (fun i γ1 => [(5, pI (i : Int))]) (fun i γ1 => []) (fun i => i ≤ s.length ∧ c7i s (fun _ e => e.to = l.proc) i) (fun i => s.length - i) (cK [1, 2] rfl) (y8y 0 rfl HE.nil) 0 ⟨by omega, a2i⟩ [] cv hv rfl fun i γ1 hi => ?_
 obtain ⟨h1, h2⟩ := hi
 refine x2x fun K4 hK4 => ?_
 refine exA 2 rfl rfl (z3z rfl u8u rfl (v6v rfl rfl rfl (y4y rfl ?_ ?_)))<;>intro j<;>try simp at j
 ·have hall := a3q h2 (by omega)
  refine z4z (hK3 _ _ (exR (x0x rfl (x6x ⟨.inr rfl, ?_⟩))))
  refine y9y rfl ?_ rfl
  exact congrArg (fun b : Bool => [AV.pv (.bool b)]) (e1v ⟨hA, fun e he => by obtain ⟨i, hi⟩ := List.getElem?_of_mem he; exact hall i e hi⟩)
 obtain ⟨e, he⟩ := gE s i
 refine x8x (hK4 _ _ (x2x fun K6 hK6 => ?_))
 refine y0y (exD (x1x 2 rfl rfl (y7y rfl rfl u8u rfl z6z rfl he (x1x 5 rfl rfl ⟨by kernel_rfl, y4y rfl ?_ ?_⟩))))<;>intro j<;>try simp at j
 ·have hto : e.to = l.proc := by omega
  refine x8x (hK6 _ _ (exG (x4x rfl (z5z (b := 1) rfl rfl (by omega) (x0x rfl ?_)))))
  exact ⟨i + 1, ⟨⟨by omega, a0i h2 he hto⟩, by omega⟩, [], cv, cv, hv, hv, rfl⟩
 have hX : ¬ e.to = l.proc := by omega
 refine exR (x0x rfl (x6x ⟨.inr rfl, ?_⟩))
 refine y9y rfl ?_ rfl
 exact congrArg (fun b : Bool => [AV.pv (.bool b)]) (a5l (fun h => hX (h.2 e (List.mem_of_getElem? he))))
theorem b2z (c c' : Bool) (l : La) (s : List Ev) : a1r Tryz.prog 241 [.agg (a0j c l), a2e c' s] (.tup [.agg (v5v (b1q l s).1), .pv (.bool (b1q l s).2)]) := by
 refine pX Tryz.f241 [.agg (v5v (b1q l s).1), .pv (.bool (b1q l s).2)] 2 ?_
 have hsm := c6h l.done s
 refine exR (u2u (id := 0) rfl rfl rfl (y6y (id := 1) z6z a8z rfl (x0x rfl (x2x fun K1 hK1 => ?_))))
 refine exR (x5x rfl v7v rfl rfl rfl (x9x rfl rfl rfl (a4j ..) (x1x 2 rfl rfl (z9z rfl rfl ?_ ?_))))<;>intro hg2<;>try simp at hg2
 ·have fX : ¬ (a6t l = true ∧ b2j l s) := fun h => by have := h.1; simp_all
  refine x1x 4 rfl rfl (x7x rfl (fun hc8 => ?_) (fun hc8 => ?_))
  rotate_left
  ·simp at hc8
  try simp at hc8
  refine exR (rlB z6z a8z ?_)
  refine x3x rfl rfl z6z rfl rfl rfl rfl (x0x rfl (x6x ⟨.inr rfl, ?_⟩))
  (rw [d1c fX]; exact ⟨_, _, rfl, .agg rfl (.cl rfl (.cl rfl (.cl rfl (.cl rfl (.cl rfl (.cl rfl (.cl rfl .nil))))))) (.cl rfl .nil)⟩)
 have fL : a6t l = true := hg2
 refine x1x 2 rfl rfl (z1z rfl rfl (x9x rfl rfl rfl (c3o ..) (x1x 2 rfl rfl (x7x rfl ?_ ?_))))<;>intro hc3<;>try simp at hc3
 ·have fX : ¬ (a6t l = true ∧ b2j l s) := fun h => a0k (by simpa using hc3) h.2
  refine exR (rlB z6z a8z ?_)
  refine x3x rfl rfl z6z rfl rfl rfl rfl (x0x rfl (x6x ⟨.inr rfl, ?_⟩))
  (rw [d1c fX]; exact ⟨_, _, rfl, .agg rfl (.cl rfl (.cl rfl (.cl rfl (.cl rfl (.cl rfl (.cl rfl (.cl rfl .nil))))))) (.cl rfl .nil)⟩)
 have fF : a6t l = true ∧ b2j l s := ⟨fL, a1o.1 (by simpa using hc3)⟩
 refine x8x (hK1 _ _ (exA 2 rfl rfl (x9x rfl rfl rfl (a9h ..) (x0x rfl (x2x fun K4 hK4 => ?_)))))
 refine r1r 1 rfl fun hlen => ?_
 refine exA 3 rfl rfl (z3z rfl r9r rfl (x1x 2 rfl rfl (z9z rfl rfl ?_ ?_)))<;>intro j<;>try simp at j
 ·refine x1x 4 rfl rfl (x7x rfl (fun hc7 => ?_) (fun hc7 => ?_))
  rotate_left
  ·simp at hc7
  try simp at hc7
  refine exR (rlB z6z a8z ?_)
  refine x3x rfl rfl z6z rfl rfl rfl rfl (x0x rfl (x6x ⟨.inr rfl, ?_⟩))
  (rw [c1h fF, e7t (by omega)]; exact ⟨_, _, rfl, .agg rfl (.cl rfl (.cl rfl (.cl rfl (.cl rfl (.cl rfl (.cl rfl (.cl rfl .nil))))))) (.cl rfl .nil)⟩)
 refine x1x 2 rfl rfl (z1z rfl rfl (z3z rfl u8u rfl (x1x 2 rfl rfl (x7x rfl ?_ ?_))))<;>intro j<;>try simp at j
 ·refine exR (rlB z6z a8z ?_)
  refine x3x rfl rfl z6z rfl rfl rfl rfl (x0x rfl (x6x ⟨.inr rfl, ?_⟩))
  (rw [c1h fF, e7u (by omega)]; exact ⟨_, _, rfl, .agg rfl (.cl rfl (.cl rfl (.cl rfl (.cl rfl (.cl rfl (.cl rfl (.cl rfl .nil))))))) (.cl rfl .nil)⟩)
 have hlt : same l.done s < s.length := by omega
 obtain ⟨e, he⟩ : ∃ e, s[same l.done s]? = some e := ⟨_, List.getElem?_eq_getElem hlt⟩
 refine x8x (hK4 _ _ (exA 2 rfl rfl (y7y rfl rfl u8u rfl z6z rfl he ?_)))
 refine w4w (out := .agg (v5v e)) rfl z6z rfl ?_
 refine x3x rfl rfl z6z rfl rfl rfl rfl (x0x rfl (x6x ⟨.inr rfl, ?_⟩))
 (rw [c1h fF, e7v (by omega) he]; exact ⟨_, _, rfl, .agg rfl (.cl rfl (.cl rfl (.cl rfl (.cl rfl (.cl rfl (.cl rfl (.cl rfl .nil))))))) (.cl rfl .nil)⟩)
end
section
theorem a4v (c : Bool) (l : List Ou) (hl : l.length ≤ 1000000) : a1r Tryz.prog 112 [a0t c l] (a0t true (a1n l)) := by
 refine pX Tryz.f112 [a0t true (a1n l)] 6 ?_
 refine exR (x0x rfl (exR (z8z (id := 0) r3r rfl w7w rfl (x0x rfl (x2x fun K1 hK1 => ?_)))))
 refine exR (x0x rfl (y0y ?_))
 refine a0l (l := ([] : List Ou)) (f := a0w) 3 rfl rfl (fun _ => rfl) ?_
 refine z2z (ι := Nat) (fun i γ1 => [(3, a0t true (a1n (l.take i))), (4, pI (i : Int))]) (fun i γ1 => [(1, ((γ1 1), .dead)), (2, ((γ1 2), .dead)), (3, ((γ1 3), .dead)), (4, ((γ1 4), .dead)), (5, ((γ1 5), .dead))]) (fun i => i ≤ l.length) (fun i => l.length - i) (y3y 0 rfl Cov.nil) (y8y 0 rfl HE.nil) 0 (by omega) [0, _, _, _, _, _] (Cov.cons' (t := 3) rfl (by rw [List.take_zero]; rfl) (y3y 4 rfl Cov.nil)) hv rfl fun i γ1 hi => ?_
 refine x2x fun K2 hK2 => ?_
 refine exA 2 rfl rfl (z3z rfl r3r rfl (v6v rfl rfl rfl (y4y rfl ?_ ?_)))<;>intro h<;>try simp at h
 ·obtain rfl : i = l.length := by omega
  refine z4z (hK1 _ _ (exA 2 rfl rfl (x6x ⟨.inr rfl, ?_⟩)))
  refine y9y rfl ?_ rfl
  exact congrArg (fun l : List Ou => [a0t true l]) (by rw [List.take_length])
 obtain ⟨x, hx⟩ := gE l i
 have hol : (a1n (l.take i)).length ≤ 1000000 := by rw [b3o, List.length_take]; omega
 refine x8x (hK2 _ _ (x2x fun K4 hK4 => ?_))
 refine y0y (exR (x4x rfl (z3z rfl r3r rfl (x0x rfl ?_))))
 refine a0c (ι := Nat) (fun k γ2 => [(5, pI (k : Int))]) (fun k γ2 => []) (fun k => k ≤ (a1n (l.take i)).length ∧ (∀ (j : Nat) y, k ≤ j → (a1n (l.take i))[j]? = some y → b0r x y = true) ∧ (∀ y, 0 < k → (a1n (l.take i))[k - 1]? = some y → b0r x y = false)) (cK [0, 3, 4] rfl) (hK [0, 1, 2, 3, 4, 5] rfl) ?_ fun k γ2 hi => ?_
 ·refine y0y ?_
  refine z2z (ι := Nat) (fun k γ3 => [(5, pI (k : Int))]) (fun k γ3 => []) (fun k => k ≤ (a1n (l.take i)).length ∧ (∀ (j : Nat) y, k ≤ j → (a1n (l.take i))[j]? = some y → b0r x y = true)) (fun k => k) (cK [0, 3, 4] rfl) (hK [0, 1, 2, 3, 4, 5] rfl) (a1n (l.take i)).length ⟨Nat.le_refl _, fun j y hj hy => by have := (List.getElem?_eq_some_iff.1 hy).1; omega⟩ [] cv hv rfl fun k γ3 hi => ?_
  obtain ⟨k1, k2⟩ := hi
  refine x2x fun K5 hK5 => ?_
  refine exD (x1x 3 rfl rfl (z9z rfl rfl ?_ ?_))<;>intro h<;>try simp at h
  ·have k0 : k = 0 := by omega
   refine x1x 10 rfl rfl ⟨by kernel_rfl, x7x rfl (fun hc8 => ?_) (fun hc8 => ?_)⟩
   ·simp at hc8
   try simp at hc8
   try have hlt := hc8
   refine z4z ?_
   exact ⟨k, ⟨k1, k2, fun y2 h0 h2 => by omega⟩, [], cv, cv, hv, hv, rfl⟩
  have k0 : 0 < k := by omega
  obtain ⟨y, hy⟩ := gE (a1n (l.take i)) (k - 1)
  refine x1x 2 rfl rfl (z1z rfl rfl (y7y rfl rfl r3r rfl w7w rfl hx (x1x 3 rfl rfl (z1z rfl rfl (a0h (b := 1) rfl rfl (by omega) (by omega) (z1z rfl rfl (y7y rfl rfl r3r rfl w7w rfl hy (z1z rfl rfl (u5u rfl w7w rfl rfl (z1z rfl rfl (x9x rfl rfl rfl (b4j ..) (a8r rfl rfl ⟨by kernel_rfl, y4y rfl ?_ ?_⟩))))))))))))<;>intro hc7<;>try simp at hc7
  ·try have hlt := hc7
   refine z4z ?_
   exact ⟨k, ⟨k1, k2, fun y2 h0 h2 => by (rw [hy] at h2; cases h2; exact hlt)⟩, [], cv, cv, hv, hv, rfl⟩
  try have hlt := hc7
  refine x8x (hK5 _ _ (y0y (exG (x4x rfl (a0h (b := 1) rfl rfl (by omega) (by omega) (x0x rfl ?_))))))
  exact ⟨k - 1, ⟨⟨by omega, fun j y2 hj hy2 => by by_cases hjk : j = k - 1; (subst hjk; rw [hy] at hy2; cases hy2; exact hlt); exact k2 j y2 (by omega) hy2⟩, by omega⟩, [], cv, cv, hv, hv, rfl⟩
 ·try dsimp only [b2o, b2p]
  obtain ⟨c1, c2, c3⟩ := hi
  have hin := (d1f hx).trans (e7w f0x (d9c _) c2 c3 c1)
  refine exH (z8z (id := 1) r3r rfl w7w rfl (x1x 2 rfl rfl (b9q rfl r3r rfl w7w rfl rfl rfl (by omega) (by omega) (by omega) ?_)))
  refine s4s (zs := ((a1n (l.take i)).take k).map a0w) rfl rfl r3r rfl w7w rfl rfl rfl (w3w (fun _ => rfl) _) (by simp) (by (simp only [a1c, a0m, a0u, a0v, a1z, b2n, T141]; omega)) ?_
  refine x1x 2 rfl rfl (y7y rfl rfl r3r rfl w7w rfl hx (u5u rfl w7w rfl rfl (u3u (id := 3) r3r rfl w7w rfl rfl rfl rfl rfl rfl ?_)))
  refine u6u (zs := ((a1n (l.take i)).take k ++ [x]).map a0w) rfl rfl r3r rfl w7w rfl rfl rfl rfl (by rfl) (w2w _ _ _) (by (simp only [a1c, a0m, a0u, a0v, a1z, b2n, T141]; omega)) ?_
  refine x1x 2 rfl rfl (b9q rfl r3r rfl w7w rfl rfl rfl (by omega) (by (rw [List.length_map]; omega)) (by (rw [List.length_map]; omega)) ?_)
  refine a2j r6r (zs := ((a1n (l.take i)).take k ++ x :: (a1n (l.take i)).drop k).map a0w) rfl rfl r3r rfl w7w rfl rfl rfl (w3w (fun _ => rfl) _) (by simp) (by (simp only [a1c, a0m, a0u, a0v, a1z, b2n, T141]; omega)) (Le.ow_map _ (fun _ => rfl) (fun _ => rfl)) ?_
  refine x0x rfl ⟨by kernel_rfl, hK4 _ _ (exG (x4x rfl (z5z (b := 1) rfl rfl (by omega) (x0x rfl ?_))))⟩
  exact ⟨i + 1, ⟨by omega, by omega⟩, [0, _, _, _, _, _], (Cov.cons' (t := 3) rfl (by rw [hin]; rfl) (y3y 4 rfl Cov.nil)), cv, hv, hv, rfl⟩
end
section
theorem c3p (c : Bool) (l : La) : a1r Tryz.prog 31 [.agg (a0j c l)] (.agg (a4t (e6b l))) := by
 refine pX Tryz.f31 [.agg (a4t (e6b l))] 2 ?_
 refine exR (u2u (id := 0) rfl rfl rfl (y6y (id := 1) a2c c7w rfl (x2x fun K1 hK1 => ?_)))
 refine exR (x5x rfl v7v rfl rfl rfl (x9x rfl rfl rfl (a4j ..) (a1s rfl (x7x rfl ?_ ?_))))<;>intro hc2<;>try simp at hc2
 ·have fX : ¬ a6t l = true := by simpa using hc2
  refine exR (rlB a2c c7w ?_)
  refine x3x rfl rfl a2c rfl rfl rfl rfl (x6x ⟨.inr rfl, ?_⟩)
  (rw [f1r fX]; exact a9d rfl rfl rfl rfl)
 have fL : a6t l = true := hc2
 have hl1 := (a2p fL).1
 refine x8x (hK1 _ _ (x2x fun K3 hK3 => ?_))
 refine exA 2 rfl rfl (z3z rfl r9r rfl (v6v rfl rfl rfl (x7x rfl ?_ ?_)))<;>intro hc4<;>try simp at hc4
 ·have h0 : l.done.length = 0 := by (rw [hc4]; rfl)
  refine exR (y1y rfl v7v rfl rfl a2c rfl rfl ?_)
  refine v2v (out := .agg (a4t l.base)) rfl a2c rfl rfl ?_
  refine x3x rfl rfl a2c rfl rfl rfl rfl (x6x ⟨.inr rfl, ?_⟩)
  (rw [f1s fL h0]; exact a9d rfl rfl rfl rfl)
 have h1 : 0 < l.done.length := List.length_pos_iff.2 hc4
 obtain ⟨p, hp⟩ := gE l.done (l.done.length - 1)
 refine x8x (hK3 _ _ (exA 4 rfl rfl (z3z rfl r9r rfl (a0h (b := 1) rfl rfl (by omega) (by omega) (y7y rfl rfl r9r rfl a0g rfl hp (y1y rfl a0g rfl rfl a2c rfl rfl ?_))))))
 refine w4w (out := .agg (a4t p.after)) rfl a2c rfl ?_
 refine x3x rfl rfl a2c rfl rfl rfl rfl (x6x ⟨.inr rfl, ?_⟩)
 (rw [f1t fL hp]; exact a9d rfl rfl rfl rfl)
theorem b1l (c : Bool) (l : La) (f t : Nat) (hlen : l.done.length ≤ 1000000) (hf : f ≤ 1000000) (ht : t ≤ 1000000) (hb : ∀ p ∈ l.done, p.sends.length ≤ 1000000 ∧ p.outs.length ≤ 1000000) : Meth Tryz.prog 110 1 [] [.agg (a0j c l), .pv (.int .i64 (f : Int)), .pv (.int .i64 (t : Int))] [(0, (0, .dead))] (.agg [pI l.proc, pI l.base.x, pI l.base.y, pI l.base.count, .ref 0 0]) [(0, (0, .row 58 12 (((a2q l f t).done).map (a3n true))))] := by
 refine mX Tryz.f110 [.agg [pI l.proc, pI l.base.x, pI l.base.y, pI l.base.count, .ref 0 0]] 1 10 fun γ => ?_
 refine exR (u2u (id := 1) rfl rfl rfl (y6y (id := 2) v7v a9t rfl (exA 4 rfl rfl (rlB v7v a9t ?_))))
 refine y6y (id := 3) v7v a9t rfl (x3x rfl rfl v7v rfl rfl rfl rfl (x2x fun K1 hK1 => ?_))
 refine exA 2 rfl rfl (y0y (a2d 3 4 0 58 12 rfl rfl rfl rfl rfl ?_))
 refine z2z (ι := Nat) (fun i γ1 => [(8, pI (i : Int))]) (fun i γ1 => [(0, ((γ1 0), .row 58 12 (((l.done.take i).drop f).map (a3n true)))), (3, ((0 + 1), .box 44 [pI l.proc, pI l.base.x, pI l.base.y, pI l.base.count, .ref 0 (γ1 0)])), (4, ((γ1 4), .dead)), (5, ((γ1 5), .dead)), (6, ((γ1 6), .dead)), (7, ((γ1 7), .dead)), (8, ((γ1 8), .dead)), (9, ((γ1 9), .dead)), (10, ((γ1 10), .dead))]) (fun i => f ≤ i ∧ (i = f ∨ (i ≤ t ∧ i ≤ l.done.length))) (fun i => l.done.length - i) (cK [2, 3, 6, 7] rfl) (hK [1, 2] rfl) f ⟨Nat.le_refl _, .inl rfl⟩ [_, 0, 0, 0, _, _, _, _, _, _, _] cv (HE.row rfl (by rw [List.drop_of_length_le (by rw [List.length_take]; omega)]; rfl) (HE.box rfl rfl (HE.kill rfl (HE.kill rfl (HE.kill rfl (HE.kill rfl (HE.kill rfl (HE.kill rfl (HE.kill rfl HE.nil))))))))) rfl fun i γ1 hi => ?_
 obtain ⟨k1, k2⟩ := hi
 refine x2x fun K2 hK2 => ?_
 refine exA 4 rfl rfl (z9z rfl rfl ?_ ?_)<;>intro j<;>try simp at j
 ·refine x1x 5 rfl rfl (x7x rfl (fun hc6 => ?_) (fun hc6 => ?_))
  ·simp at hc6
  try simp at hc6
  have hfin : (l.done.take i).drop f = (l.done.take t).drop f := c6f k1 k2 (by omega)
  refine z4z (hK1 _ _ (exR (x5x rfl v7v rfl rfl rfl (x3x rfl rfl v7v rfl rfl rfl rfl (x6x ?_)))))
  exact ⟨.inr rfl, [_], rfl, rfl, HE.row rfl (by rw [hfin]; rfl) HE.nil⟩
 refine x1x 3 rfl rfl (z1z rfl rfl (z3z rfl r9r rfl (x1x 2 rfl rfl (y4y rfl ?_ ?_))))<;>intro j<;>try simp at j
 ·have hfin : (l.done.take i).drop f = (l.done.take t).drop f := c6f k1 k2 (by omega)
  refine z4z (hK1 _ _ (exR (x5x rfl v7v rfl rfl rfl (x3x rfl rfl v7v rfl rfl rfl rfl (x6x ?_)))))
  exact ⟨.inr rfl, [_], rfl, rfl, HE.row rfl (by rw [hfin]; rfl) HE.nil⟩
 obtain ⟨p, hp⟩ := gE l.done i
 have g1 : i < t := by omega
 obtain ⟨hps, hpo⟩ := hb p (List.mem_of_getElem? hp)
 refine x8x (hK2 _ _ (x2x fun K5 hK5 => ?_))
 refine y0y (exA 3 rfl rfl (y7y rfl rfl r9r rfl a0g rfl hp (u5u rfl a0g rfl rfl (y6y (id := 4) a0g c5i rfl (x3x rfl rfl a0g rfl rfl rfl rfl (exH (x1x 3 rfl rfl ?_)))))))
 refine v2v (out := .agg (v5v p.ev)) rfl z6z rfl rfl ?_
 refine y1y rfl a0g rfl rfl a2c rfl rfl ?_
 refine v2v (out := .agg (a4t p.after)) rfl a2c rfl rfl ?_
 refine z8z (id := 5) u8u rfl z6z rfl (x1x 2 rfl rfl ?_)
 refine a2j r6r (zs := (p.sends).map v5v) rfl rfl u8u rfl z6z rfl rfl rfl (w3w (fun _ => rfl) _) rfl (by (simp only [a1c, a0m, a0u, a0v, a1z, a4b, b2n, T56]; omega)) (Le.ow_map _ (fun _ => rfl) (fun _ => rfl)) ?_
 refine z8z (id := 7) r3r rfl w7w rfl (x1x 2 rfl rfl ?_)
 refine a2j r6r (zs := (p.outs).map a0w) rfl rfl r3r rfl w7w rfl rfl rfl (w3w (fun _ => rfl) _) rfl (by (simp only [a1c, a0m, a0u, a0v, a1z, a4b, b2n, T141]; omega)) (Le.ow_map _ (fun _ => rfl) (fun _ => rfl)) ?_
 refine rlB a0g c5i ?_
 refine u3u (id := 9) r9r rfl a0g rfl rfl rfl rfl rfl rfl ?_
 refine u6u (zs := ((l.done.take i).drop f ++ [p]).map (a3n true)) rfl rfl r9r rfl a0g rfl rfl rfl rfl (by rfl) (w2w _ _ _) (by (simp only [a1c, a0m, a0u, a0v, a1z, a4b, b2n, T58]; omega)) ?_
 refine y1y rfl v7v rfl rfl r9r rfl rfl (z0z rfl rfl r9r rfl rfl rfl rfl rfl (by simp only [a1h]; rfl) ?_)
 refine ⟨by kernel_rfl, hK5 _ _ (exG (x4x rfl (z5z (b := 1) rfl rfl (by omega) (x0x rfl ?_))))⟩
 exact ⟨i + 1, ⟨⟨by omega, .inr ⟨by omega, by omega⟩⟩, by omega⟩, [_, 0, 0, 0, _, _, _, _, _, _, _], cv, cv, (HE.row rfl (by rw [w1w hp, List.drop_append_of_le_length (by rw [List.length_take]; omega)]) (HE.box rfl rfl (HE.kill rfl (HE.kill rfl (HE.kill rfl (HE.kill rfl (HE.kill rfl (HE.kill rfl (HE.kill rfl HE.nil))))))))), hv, rfl⟩
theorem c2f (a : Ap) (l : La) (s : List Ev) (hA : e0j a) (hL : a6t l = true) : MethE Tryz.prog 328 0 [.agg (b9j true a), .agg (a0j true l), a2e true s] [] (ι := La × Bool) (fun S' => S'.2 = true → ∃ p, S'.1 = a3b l p ∧ l.done.length < 100 ∧ paB p) (fun S' => []) (fun S' => .tup [.agg (a0j true S'.1), .pv (.bool (S'.2))]) (fun S' => []) := by
 refine mE (ι := La × Bool) Tryz.f328 (fun S' => [.agg (a0j true S'.1), .pv (.bool (S'.2))]) 0 10 fun γ => ?_
 have hb : ∀ r ∈ a.rules, r.ops.length ≤ 1048576 := fun r hr => by obtain ⟨i, hi⟩ := List.getElem?_of_mem hr; have := (hA.2 i r hi).2.1.2.1; omega
 have hlb := e7p hL
 refine exR (u2u (id := 0) rfl rfl rfl (u2u (id := 1) rfl rfl rfl (y6y (id := 2) v7v a9t rfl (x0x rfl (exA 2 rfl rfl (x9x rfl rfl rfl (b2z true true l s) (x1x 3 rfl rfl (y6y (id := 3) z6z a8z rfl (x3x rfl rfl z6z rfl rfl rfl rfl (x0x rfl (x2x fun K1 hK1 => ?_)))))))))))
 refine exA 3 rfl rfl (z9z rfl rfl ?_ ?_)<;>intro hg2<;>try simp at hg2
 ·refine x1x 7 rfl rfl (x7x rfl (fun hc6 => ?_) (fun hc6 => ?_))
  rotate_left
  ·simp at hc6
  try simp at hc6
  refine x2x fun K7 hK7 => ?_
  refine exR (x5x rfl v7v rfl rfl rfl (x9x rfl rfl rfl (a4j ..) (a1s rfl (x7x rfl ?_ ?_))))<;>intro hc8<;>try simp at hc8
  ·exact absurd hL (by simpa using hc8)
  refine x8x (hK7 _ _ (exA 3 rfl rfl (z3z rfl r9r rfl (x9x rfl rfl rfl (a5v true l hlb) (x3x rfl rfl v7v rfl rfl rfl rfl (x0x rfl ?_))))))
  skip
  refine x6x ?_
  exact ⟨.inr rfl, (l, false), (by intro h; simp at h), [], rfl, rfl, hv⟩
 have hok : (b1q l s).2 = true := hg2
 refine x5x rfl a1y rfl rfl rfl (z1z rfl rfl (rlB a1y b3y ?_))
 refine z1z rfl rfl (rlB a1y b3y ?_)
 refine z1z rfl rfl (rlB a1y b3y ?_)
 refine z1z rfl rfl ?_
 refine a0d (id := 4) b1x rfl a1y rfl rfl rfl rfl (.val rfl rfl (.val rfl rfl (.val rfl rfl (.val rfl rfl .nil)))) rfl (a0q rfl) (a0q rfl) (a0q rfl) rfl rfl ?_
 refine z1z rfl rfl ?_
 refine b7s rfl rfl rfl (.ref rfl (e1i a) .nil) (a8w false (e9r a) (by intro x hx; simp only [e9r, List.mem_cons, List.not_mem_nil, or_false] at hx; rcases hx with rfl | rfl | rfl | rfl <;> first | exact hb | (intro r hr; cases hr))) (.pv _) ?_
 refine x1x 2 rfl rfl (x7x rfl ?_ ?_)<;>intro j<;>try simp at j
 ·refine x2x fun K4 hK4 => ?_
  refine exR (x5x rfl v7v rfl rfl rfl (x9x rfl rfl rfl (a4j ..) (a1s rfl (x7x rfl ?_ ?_))))<;>intro hc5<;>try simp at hc5
  ·exact absurd hL (by simpa using hc5)
  refine x8x (hK4 _ _ (exA 3 rfl rfl (z3z rfl r9r rfl (x9x rfl rfl rfl (a5v true l hlb) (x3x rfl rfl v7v rfl rfl rfl rfl (x0x rfl ?_))))))
  skip
  refine x6x ?_
  exact ⟨.inr rfl, (l, false), (by intro h; simp at h), [], rfl, rfl, hv⟩
 have hroom := e1h hok
 refine x8x (hK1 _ _ (d1n 4 (b4d r6r 0 4 rfl rfl ?_)))
 refine x1x 2 rfl rfl (x9x rfl rfl rfl (c3p true l) (x5x rfl z6z rfl rfl rfl (b4d r6r 9 1 rfl rfl ?_)))
 refine y6y (id := 5) a2c c7w rfl (b5k c3d (by rfl) [] [] (c7e a (e6b l) (b1q l s).1 hb) rfl rfl rfl rfl (by decide) rfl rfl (by repeat (exact InH.nil)) (fun _ => (by (simp only [pI, a3p, a3s, b9s, gl, nx, a7r, Nat.beq]; rfl))) (fun _ => (by (simp only [pI, a3p, a3s, b9s, gl, nx, a7r, Nat.beq]; rfl))) ⟨⟨0, 0, 0⟩, [], []⟩ ⟨Nat.zero_le _, Nat.zero_le _, fun q h => by cases h⟩ fun r hr => ?_)
 obtain ⟨r1, r2, r3⟩ := hr
 refine b4e r6r 5 4 rfl rfl ?_
 refine x1x 4 rfl rfl (b4e r6r 10 3 rfl rfl ?_)
 refine x3x rfl rfl a2c rfl rfl rfl rfl (x1x 2 rfl rfl (c1w (by kernel_rfl) ?_))
 refine exA 3 rfl rfl (z3z rfl r9r rfl ?_)
 refine rlM [9] [_] (b1l true l 0 l.done.length hlb.1 (by omega) hlb.1 hlb.2) rfl rfl rfl ?_
 refine y6y (id := 6) v7v a9t rfl (x3x rfl rfl v7v rfl rfl rfl rfl ?_)
 rw [b5e]
 refine exD (x1x 5 rfl rfl (x9x rfl rfl rfl (a2g true r.sends (by omega)) ?_))
 refine x4x rfl (x9x rfl rfl rfl (a4v true r.outs (by omega)) ?_)
 refine rlB a0g c5i ?_
 refine u3u (id := 7) r9r rfl a0g rfl rfl rfl rfl rfl rfl ?_
 refine u6u (zs := (l.done ++ [(⟨(b1q l s).1, r.s, p0p r.sends, a1n r.outs⟩ : Pa)]).map (a3n true)) rfl rfl r9r rfl a0g rfl rfl rfl rfl (by rfl) (w2w (a3n true) l.done (⟨(b1q l s).1, r.s, p0p r.sends, a1n r.outs⟩ : Pa)) (by (simp only [a1c, a0m, a0u, a0v, a1z, a4b, b2n, T58]; omega)) ?_
 refine y1y rfl v7v rfl rfl r9r rfl rfl (z0z rfl rfl r9r rfl rfl rfl rfl rfl (by simp only [a1h]; rfl) ?_)
 refine ⟨by kernel_rfl, exR (x5x rfl v7v rfl rfl rfl (x3x rfl rfl v7v rfl rfl rfl rfl (x0x rfl ?_)))⟩
 refine p8p (b := b5s true (l.done ++ [(⟨(b1q l s).1, r.s, p0p r.sends, a1n r.outs⟩ : Pa)])) 2 4 rfl rfl rfl (.ref rfl (Le.ow_map _ (fun _ => rfl) (fun _ => rfl)) .nil) rfl rfl rfl rfl ?_
 refine x6x ?_
 exact ⟨.inr rfl, (a3b l (⟨(b1q l s).1, r.s, p0p r.sends, a1n r.outs⟩ : Pa), true), (fun _ => ⟨(⟨(b1q l s).1, r.s, p0p r.sends, a1n r.outs⟩ : Pa), rfl, hroom, e9j r1 r2 r3⟩), [], rfl, rfl, hv⟩
theorem c3q (n : Nd) (q : Int) (hl4 : n.lanes.length ≤ 1000000) : MethE Tryz.prog 327 0 [.agg (w5w true n), .pv (.int .i64 q)] [] (ι := Int) (fun S' => S' = -1 ∨ ∃ (i : Nat) (l : La), S' = (i : Int) ∧ n.lanes[i]? = some l ∧ l.proc = q) (fun S' => []) (fun S' => .pv (.int .i64 S')) (fun S' => []) := by
 refine mE (ι := Int) Tryz.f327 (fun S' => [.pv (.int .i64 S')]) 0 1 fun γ => ?_
 refine exR (u2u (id := 0) rfl rfl rfl (x0x rfl (x2x fun K1 hK1 => ?_)))
 refine exR (x0x rfl (y0y ?_))
 refine z2z (ι := Nat) (fun i γ1 => [(5, pI (i : Int))]) (fun i γ1 => []) (fun i => i ≤ n.lanes.length) (fun i => n.lanes.length - i) (cK [1, 2] rfl) (y8y 0 rfl HE.nil) 0 (by omega) [] cv hv rfl fun i γ1 hi => ?_
 refine x2x fun K2 hK2 => ?_
 refine exA 3 rfl rfl (z3z rfl r5r rfl (v6v rfl rfl rfl (y4y rfl ?_ ?_)))<;>intro j<;>try simp at j
 ·refine z4z (hK1 _ _ (exR (x0x rfl (x6x ?_))))
  exact ⟨.inr rfl, -1, .inl rfl, [], rfl, rfl, hv⟩
 obtain ⟨l, hl⟩ := gE n.lanes i
 refine x8x (hK2 _ _ (x2x fun K4 hK4 => ?_))
 refine y0y (exA 3 rfl rfl (y7y rfl rfl r5r rfl v7v rfl hl (x1x 4 rfl rfl (x7x rfl ?_ ?_))))<;>intro hc5<;>try simp at hc5
 ·have hq : l.proc = q := hc5
  refine exA 2 rfl rfl (x6x ?_)
  exact ⟨.inr rfl, (i : Int), .inr ⟨i, l, rfl, hl, hq⟩, [], rfl, rfl, hv⟩
 refine x8x (hK4 _ _ (exG (x4x rfl (z5z (b := 1) rfl rfl (by omega) (x0x rfl ?_)))))
 exact ⟨i + 1, ⟨by omega, by omega⟩, [], cv, cv, hv, hv, rfl⟩
end
section
theorem b3a (id : Int) : a1r Tryz.prog 147 [.pv (.int .i64 id)] (.row (.rd true) 44 5 ((s2s id 4).map fun p => a0j true (b1o p))) := by
 refine pX Tryz.f147 [.row (.rd true) 44 5 ((s2s id 4).map fun p => a0j true (b1o p))] 3 ?_
 have hpl := fun k => a5s id k
 refine exR (x0x rfl (exR (z8z (id := 0) r5r rfl v7v rfl (x0x rfl (x2x fun K1 hK1 => ?_)))))
 refine exR (x0x rfl (y0y ?_))
 refine z2z (ι := Nat) (fun i γ1 => [(3, .ref 0 (γ1 0)), (4, pI (i : Int))]) (fun i γ1 => [(0, ((γ1 0), .row 44 5 ((s2s id i).map d9q))), (1, ((γ1 1), .dead)), (2, ((γ1 2), .dead))]) (fun i => i ≤ 4) (fun i => 4 - i) (y3y 0 rfl Cov.nil) HE.nil 0 (by omega) [_, _, _] cv hv rfl fun i γ1 hi => ?_
 refine x2x fun K2 hK2 => ?_
 refine exA 2 rfl rfl (y4y rfl ?_ ?_)<;>intro h<;>try simp at h
 ·refine z4z (hK1 _ _ (exA 2 rfl rfl (x6x ⟨.inr rfl, ?_⟩)))
  refine e2l rfl rfl d9r ?_
  have : i = 4 := by omega
  rw [this]
 refine x8x (hK2 _ _ (x2x fun K4 hK4 => ?_))
 refine y0y (exR (x4x rfl (x9x rfl rfl rfl (a1k ..) (x1x 2 rfl rfl (y4y rfl ?_ ?_)))))<;>intro h<;>try simp at h
 ·refine x8x (hK4 _ _ (exG (x4x rfl (p5p rfl rfl rfl (x0x rfl ?_)))))
  exact ⟨i + 1, ⟨by omega, by omega⟩, [_, _, _], (y3y 3 rfl (Cov.cons' (t := 4) rfl (by rw [u4u (by omega) (by omega)]; rfl) Cov.nil)), cv, (HE.row rfl (by simp only [a7t]; rw [if_neg (by assumption)]) (HE.kill rfl (HE.kill rfl HE.nil))), hv, rfl⟩
 refine exG (x1x 2 rfl rfl (rlB v7v a9t ?_))
 refine u3u (id := 1) r5r rfl v7v rfl rfl rfl rfl rfl rfl ?_
 have := hpl i
 refine u6u (zs := (s2s id i ++ [(i : Int)]).map d9q) rfl rfl r5r rfl v7v rfl rfl rfl rfl (by rfl) (w2w _ _ _) (by (simp only [a1c, a0m, a0u, a0v, a1z, a4b, T44]; omega)) ?_
 refine x0x rfl (hK4 _ _ (exG (x4x rfl (p5p rfl rfl rfl (x0x rfl ?_)))))
 exact ⟨i + 1, ⟨by omega, by omega⟩, [_, _, _], (y3y 3 rfl (Cov.cons' (t := 4) rfl (by rw [u4u (by omega) (by omega)]; rfl) Cov.nil)), cv, (HE.row rfl (by simp only [a7t]; rw [if_pos (by assumption)]) (HE.kill rfl (HE.kill rfl HE.nil))), hv, rfl⟩
theorem b5q (c : Bool) (l : La) : a1r Tryz.prog 110 [.agg (a0j c l), .pv (.int .i64 0), .pv (.int .i64 0)] (.agg (a0j true (s5s l))) := by
 refine pX Tryz.f110 [.agg (a0j true (s5s l))] 10 ?_
 refine exR (u2u (id := 0) rfl rfl rfl (y6y (id := 1) v7v a9t rfl (exA 4 rfl rfl (rlB v7v a9t ?_))))
 refine y6y (id := 2) v7v a9t rfl (x3x rfl rfl v7v rfl rfl rfl rfl (x2x fun K1 hK1 => ?_))
 refine exA 2 rfl rfl (y0y ?_)
 refine z2z (ι := Nat) (fun i γ1 => [(8, pI 0)]) (fun i γ1 => [(3, ((γ1 3), .dead)), (4, ((γ1 4), .dead)), (5, ((γ1 5), .dead)), (6, ((γ1 6), .dead)), (7, ((γ1 7), .dead)), (8, ((γ1 8), .dead)), (9, ((γ1 9), .dead))]) (fun i => True) (fun i => 0) (cK [2, 3, 6, 7] rfl) (hK [0, 1, 2] rfl) 0 trivial [0, 0, 0, _, _, _, _, _, _, _] cv hv rfl fun i γ1 hi => ?_
 refine x2x fun K2 hK2 => ?_
 refine exA 4 rfl rfl (f3b rfl rfl (fun hg3 => ?_) (fun hg3 => ?_))
 ·simp at hg3
 try simp at hg3
 refine x1x 5 rfl rfl (x7x rfl (fun hc5 => ?_) (fun hc5 => ?_))
 ·simp at hc5
 try simp at hc5
 refine z4z (hK1 _ _ (exR (x5x rfl v7v rfl rfl rfl (x3x rfl rfl v7v rfl rfl rfl rfl (x6x ⟨.inr rfl, ?_⟩)))))
 exact ⟨_, _, rfl, .agg rfl (.cl rfl (.cl rfl (.cl rfl (.cl rfl (.le rfl .nil .nil))))) .nil⟩
theorem c2g (c : Bool) (n : Nd) (hl : n.lanes.length ≤ 1000000000) (hk : n.kept.length ≤ 1000000000) (ho : n.outs.length ≤ 1000000000) : a1r Tryz.prog 155 [.agg (w5w c n)] (.agg (w5w true (a2o n))) := by
 refine pX Tryz.f155 [.agg (w5w true (a2o n))] 16 ?_
 refine exR (u2u (id := 0) rfl rfl rfl (y6y (id := 1) y5y s9s rfl (exD (x1x 8 rfl rfl (z8z (id := 2) u8u rfl z6z rfl (x1x 2 rfl rfl ?_))))))
 refine s4s (zs := n.kept.map v5v) rfl rfl u8u rfl z6z rfl rfl rfl (w3w (fun _ => rfl) _) rfl (by (simp only [a1c, a0m, a0u, a0v, a1z, a4b, T56]; omega)) ?_
 refine z8z (id := 4) r3r rfl w7w rfl (x1x 2 rfl rfl ?_)
 refine s4s (zs := n.outs.map a0w) rfl rfl r3r rfl w7w rfl rfl rfl (w3w (fun _ => rfl) _) rfl (by (simp only [a1c, a0m, a0u, a0v, a1z, a4b, T141]; omega)) ?_
 refine x1x 2 rfl rfl (rlB y5y s9s ?_)
 refine y6y (id := 6) y5y s9s rfl (x3x rfl rfl y5y rfl rfl rfl rfl ⟨by kernel_rfl, x2x fun K1 hK1 => ?_⟩)
 refine exR (x0x rfl (y0y (a2d 6 4 13 44 5 rfl rfl rfl rfl rfl ?_)))
 refine z2z (ι := Nat) (fun i γ1 => [(4, pI (i : Int))]) (fun i γ1 => [(13, ((γ1 13), .row 44 5 (((n.lanes.take i).map s5s).map (a0j true)))), (6, ((0 + 1), .box 65 [pI n.id, .pv (.bool n.up), pI n.inc, pI n.g, .ref 13 (γ1 13), .ref 2 2, .ref 4 2, pI n.led, pI 0, .pv (.slice none 0 0), .pv (.slice none 0 0), pI 0, pI 41])), (7, ((γ1 7), .dead)), (8, ((γ1 8), .dead))]) (fun i => i ≤ n.lanes.length) (fun i => n.lanes.length - i) (cK [1, 2, 3] rfl) (hK [0, 1, 2, 3, 4, 5, 9, 10, 11, 12, 14, 15] rfl) 0 (by omega) [0, 0, 0, 0, 0, 0, 0, _, _, 0, 0, 0, 0, _] cv (HE.row rfl (by rw [List.take_zero]; rfl) (HE.box rfl rfl (HE.kill rfl (HE.kill rfl HE.nil)))) rfl fun i γ1 hi => ?_
 refine x2x fun K2 hK2 => ?_
 refine exA 3 rfl rfl (z3z rfl r5r rfl (v6v rfl rfl rfl (x7x rfl ?_ ?_)))<;>intro h<;>try simp at h
 ·refine x8x (hK2 _ _ (x2x fun K4 hK4 => ?_))
  refine y0y (exH (x1x 5 rfl rfl ?_))
  obtain ⟨a, ha⟩ := gE n.lanes i
  refine y7y rfl rfl r5r rfl v7v rfl ha (u5u rfl v7v rfl rfl (x9x rfl rfl rfl (b5q c a) (u3u (id := 7) r5r rfl v7v rfl rfl rfl rfl rfl rfl ?_)))
  refine u6u (zs := ((n.lanes.take i).map s5s ++ [s5s a]).map (a0j true)) rfl rfl r5r rfl v7v rfl rfl rfl rfl (by rfl) (w2w _ _ _) (by (simp only [a1c, a0m, a0u, a0v, a1z, a4b, T44]; omega)) ?_
  refine y1y rfl y5y rfl rfl r5r rfl rfl (z0z rfl rfl r5r rfl rfl rfl rfl rfl (by simp only [a1h]; rfl) ?_)
  refine ⟨by kernel_rfl, hK4 _ _ (exG (x4x rfl (p5p rfl rfl rfl (x0x rfl ?_))))⟩
  exact ⟨i + 1, ⟨by omega, by omega⟩, [0, 0, 0, 0, 0, 0, 0, _, _, 0, 0, 0, 0, _], (Cov.cons' (t := 4) rfl (by rw [u4u (by omega) (by omega)]; rfl) Cov.nil), cv, (HE.row rfl (by simp only [w1w ha, List.map_append, List.map_cons, List.map_nil]) (HE.box rfl rfl (HE.kill rfl (HE.kill rfl HE.nil)))), hv, rfl⟩
 obtain rfl : i = n.lanes.length := by omega
 refine z4z (hK1 _ _ (x2x fun K5 hK5 => ?_))
 refine exR (x0x rfl (y0y (a2d 6 9 14 190 3 rfl rfl rfl rfl rfl (a2d 6 10 15 3 1 rfl rfl rfl rfl rfl ?_))))
 refine z2z (ι := Nat) (fun i γ2 => [(5, pI (i : Int))]) (fun i γ2 => [(14, ((γ2 14), .row 190 3 ((List.range i).map fun _ => b1i))), (15, ((γ2 15), .row 3 1 ((List.range i).map fun _ => a8u 0))), (6, ((0 + 1), .box 65 [pI n.id, .pv (.bool n.up), pI n.inc, pI n.g, .ref 13 (γ1 13), .ref 2 2, .ref 4 2, pI n.led, pI 0, .ref 14 (γ2 14), .ref 15 (γ2 15), pI 0, pI 41])), (9, ((γ2 9), .dead)), (10, ((γ2 10), .dead)), (11, ((γ2 11), .dead)), (12, ((γ2 12), .dead))]) (fun i => i ≤ 3) (fun i => 3 - i) (cK [2, 3] rfl) (hK [0, 1, 2, 3, 4, 5, 7, 8, 13] rfl) 0 (by omega) [0, 0, 0, 0, 0, 0, 0, 0, 0, _, _, _, _, 0, _, _] cv hv rfl fun i γ2 hi => ?_
 refine x2x fun K6 hK6 => ?_
 refine exA 2 rfl rfl (y4y rfl ?_ ?_)<;>intro h<;>try simp at h
 ·obtain rfl : i = 3 := by omega
  rw [List.take_length]
  refine z4z (hK5 _ _ (exR (x5x rfl y5y rfl rfl rfl (x3x rfl rfl y5y rfl rfl rfl rfl (x6x ⟨.inr rfl, ?_⟩)))))
  exact ⟨_, _, rfl, .agg rfl (.cl rfl (.cl rfl (.cl rfl (.cl rfl (.ref rfl (Le.ow_map _ (fun _ => rfl) (fun _ => rfl)) (.ref rfl (Le.ow_map _ (fun _ => rfl) (fun _ => rfl)) (.ref rfl (Le.ow_map _ (fun _ => rfl) (fun _ => rfl)) (.cl rfl (.cl rfl (.ref rfl (Le.ow_map2 (f := fun _ => b1i) (f' := fun _ => a5k true vi0) (List.range 3) (fun _ => rfl) (fun _ => .cons (.cl rfl) (.cons (.cl rfl) (.cons .nil .nil)))) (.ref rfl (Le.ow_map (f := fun _ => a8u 0) (List.range 3) (fun _ => rfl) (fun _ => rfl)) (.cl rfl (.cl rfl .nil))))))))))))) .nil⟩
 refine x8x (hK6 _ _ (x2x fun K8 hK8 => ?_))
 refine y0y (exA 2 rfl rfl (rlB q8q a9v ?_))
 refine u3u (id := 9) a0o rfl q8q rfl rfl rfl rfl rfl rfl ?_
 refine u6u (zs := (List.range i).map (fun _ => b1i) ++ [b1i]) rfl rfl a0o rfl q8q rfl rfl rfl rfl (by rfl) rfl (by (simp only [a1c, a0m, a0u, a0v, a1z, a4b, T190]; omega)) ?_
 refine y1y rfl y5y rfl rfl a0o rfl rfl (z0z rfl rfl a0o rfl rfl rfl rfl rfl (by simp only [a1h]; rfl) ?_)
 refine exG (x1x 2 rfl rfl (a9w (id := 11) q2q rfl q1q rfl rfl rfl rfl rfl ?_))
 refine u6u (zs := (List.range i).map (fun _ => a8u 0) ++ [a8u 0]) rfl rfl q2q rfl q1q rfl rfl rfl rfl (by rfl) rfl (by (simp only [a1c, a0m, a0u, a0v, a1z, a4b, T3]; omega)) ?_
 refine y1y rfl y5y rfl rfl q2q rfl rfl (z0z rfl rfl q2q rfl rfl rfl rfl rfl (by simp only [a1h]; rfl) ?_)
 refine hK8 _ _ (exG (x4x rfl (p5p rfl rfl rfl (x0x rfl ?_))))
 exact ⟨i + 1, ⟨by omega, by omega⟩, [0, 0, 0, 0, 0, 0, 0, 0, 0, _, _, _, _, 0, _, _], (Cov.cons' (t := 5) rfl (by rw [u4u (by omega) (by omega)]; rfl) Cov.nil), cv, (HE.row rfl (by rw [List.range_succ, List.map_append]; rfl) (HE.row rfl (by rw [List.range_succ, List.map_append]; rfl) (HE.box rfl rfl (HE.kill rfl (HE.kill rfl (HE.kill rfl (HE.kill rfl HE.nil))))))), hv, rfl⟩
theorem b9k (id : Int) : a1r Tryz.prog 89 [.pv (.int .i64 id)] (.agg (w5w true (a2n id))) := by
 refine pX Tryz.f89 [.agg (w5w true (a2n id))] 5 ?_
 have hpl := a5s id 4
 refine exR (y6y (id := 0) y5y s9s rfl (x2x fun K1 hK1 => ?_))
 refine exR (x4x rfl (x9x rfl rfl rfl (u7u ..) (a1s rfl (x7x rfl ?_ ?_))))<;>intro hc2<;>try simp at hc2
 ·have hns : a2n id = nd0 := if_neg (by omega)
  refine exR (rlB y5y s9s ?_)
  refine x3x rfl rfl y5y rfl rfl rfl rfl (x6x ⟨.inr rfl, ?_⟩)
  exact ⟨_, _, rfl, .agg rfl (by rw [hns]; exact .cl rfl (.cl rfl (.cl rfl (.cl rfl (.le rfl .nil (.le rfl .nil (.le rfl .nil (.cl rfl (.cl rfl (.le rfl .nil (.le rfl .nil (.cl rfl (.cl rfl .nil))))))))))))) .nil⟩
 have hin : 0 ≤ id ∧ id ≤ 2 := hc2
 have hns : a2n id = ⟨id, true, 1, 0, (s2s id 4).map b1o, p0p ((s2s id 4).map a1w), [], 0, 1, [vi0, vi0, vi0], [0, 0, 0], 0, 41⟩ := if_pos hin
 have hnb : ({ a2o ⟨id, true, 1, 0, (s2s id 4).map b1o, (s2s id 4).map a1w, [], 0, 0, [], [], 0, 0⟩ with version := 1 } : Nd) = a2n id := by rw [hns, c1a hin]; simp only [a2o, List.map_map]; rfl
 refine x8x (hK1 _ _ (exA 2 rfl rfl (x9x rfl rfl rfl (b3a ..) (rlB y5y s9s ?_))))
 refine y6y (id := 1) y5y s9s rfl (x3x rfl rfl y5y rfl rfl rfl rfl (x2x fun K3 hK3 => ?_))
 refine exR (x0x rfl (y0y (a2d 1 5 4 56 7 rfl rfl rfl rfl rfl ?_)))
 refine z2z (ι := Nat) (fun i γ1 => [(4, pI (i : Int))]) (fun i γ1 => [(4, ((γ1 4), .row 56 7 ((((s2s id 4).take i).map a1w).map v5v))), (1, ((0 + 1), .box 65 [pI id, .pv (.bool true), pI 1, pI 0, .row (.rd true) 44 5 ((s2s id 4).map fun p => a0j true (b1o p)), .ref 4 (γ1 4), .pv (.slice none 0 0), pI 0, pI 0, .pv (.slice none 0 0), .pv (.slice none 0 0), pI 0, pI 0])), (2, ((γ1 2), .dead)), (3, ((γ1 3), .dead))]) (fun i => i ≤ (s2s id 4).length) (fun i => (s2s id 4).length - i) (cK [2, 3] rfl) (y8y 0 rfl HE.nil) 0 (by omega) [0, 0, _, _, _] cv (HE.row rfl (by rw [List.take_zero]; rfl) (HE.box rfl rfl (HE.kill rfl (HE.kill rfl HE.nil)))) rfl fun i γ1 hi => ?_
 refine x2x fun K4 hK4 => ?_
 refine exA 3 rfl rfl (z3z rfl r5r rfl (v6v rfl rfl rfl (y4y rfl ?_ ?_)))<;>intro h<;>try simp at h
 ·obtain rfl : i = (s2s id 4).length := by omega
  rw [List.take_length]
  refine z4z (hK3 _ _ ?_)
  refine p8p (b := a2e true ((s2s id 4).map a1w)) 1 5 rfl rfl rfl (.ref rfl (Le.ow_map _ (fun _ => rfl) (fun _ => rfl)) .nil) rfl rfl rfl rfl ?_
  refine p8p (b := a0t true []) 1 6 rfl rfl rfl (.le rfl .nil .nil) rfl rfl rfl rfl ?_
  refine p8p (b := c2w true []) 1 9 rfl rfl rfl (.le rfl .nil .nil) rfl rfl rfl rfl ?_
  refine p8p (b := a6f true []) 1 10 rfl rfl rfl (.le rfl .nil .nil) rfl rfl rfl rfl ?_
  rw [show (AV.row (.rd true) 44 5 ((s2s id 4).map fun p => a0j true (b1o p))) = b8y true ((s2s id 4).map b1o) from by rw [b8y, List.map_map]; rfl]
  refine exR (x5x rfl y5y rfl rfl rfl (x9x rfl rfl rfl (c2g true ⟨id, true, 1, 0, (s2s id 4).map b1o, (s2s id 4).map a1w, [], 0, 0, [], [], 0, 0⟩ (by rw [List.length_map]; omega) (by rw [List.length_map]; omega) (by simp)) ?_))
  refine x3x rfl rfl y5y rfl rfl rfl rfl (exR (y1y rfl y5y rfl rfl q1q rfl rfl (z0z rfl rfl q1q rfl rfl rfl rfl rfl (by simp only [a1h]; rfl) ?_)))
  refine exR (x5x rfl y5y rfl rfl rfl (x3x rfl rfl y5y rfl rfl rfl rfl (x6x ⟨.inr rfl, ?_⟩)))
  exact a9d (cs := w5w true { a2o ⟨id, true, 1, 0, (s2s id 4).map b1o, (s2s id 4).map a1w, [], 0, 0, [], [], 0, 0⟩ with version := 1 }) rfl (by rw [hnb]) rfl rfl
 obtain ⟨p, hp⟩ := gE (s2s id 4) i
 refine x8x (hK4 _ _ (x2x fun K6 hK6 => ?_))
 refine y0y (exH (x1x 5 rfl rfl (y7y rfl rfl r5r rfl v7v rfl hp (x1x 2 rfl rfl (x9x rfl rfl rfl (c1x ..) (u3u (id := 2) u8u rfl z6z rfl rfl rfl rfl rfl rfl ?_))))))
 refine u6u (zs := (((s2s id 4).take i).map a1w ++ [a1w p]).map v5v) rfl rfl u8u rfl z6z rfl rfl rfl rfl (by rfl) (w2w _ _ _) (by (simp only [a1c, a0m, a0u, a0v, a1z, a4b, T56]; omega)) ?_
 refine y1y rfl y5y rfl rfl u8u rfl rfl (z0z rfl rfl u8u rfl rfl rfl rfl rfl (by simp only [a1h]; rfl) ?_)
 refine ⟨by kernel_rfl, hK6 _ _ (exG (x4x rfl (p5p rfl rfl rfl (x0x rfl ?_))))⟩
 exact ⟨i + 1, ⟨by omega, by omega⟩, [0, 0, _, _, _], (Cov.cons' (t := 4) rfl (by rw [u4u (by omega) (by omega)]; rfl) Cov.nil), cv, (HE.row rfl (by simp only [w1w hp, List.map_append, List.map_cons, List.map_nil]) (HE.box rfl rfl (HE.kill rfl (HE.kill rfl HE.nil)))), hv, rfl⟩
end
section
theorem q9q (c : Bool) (n : Nd) : a1r Tryz.prog 46 [.agg (w5w c n)] (.pv (.bool (kb (z7z n)))) := by
 refine pX Tryz.f46 [.pv (.bool (kb (z7z n)))] 1 ?_
 have hpl := a5s n.id 4
 refine exR (u2u (id := 0) rfl rfl rfl (x0x rfl (x2x fun K1 hK1 => ?_)))
 refine exD (x1x 2 rfl rfl (x9x rfl rfl rfl (u7u ..) (x1x 2 rfl rfl (z9z rfl rfl ?_ ?_))))<;>intro hg2<;>try simp at hg2
 ·have hX : ¬ (0 ≤ n.id ∧ n.id ≤ 2) := by omega
  refine x1x 36 rfl rfl ⟨by kernel_rfl, x7x rfl (fun hc33 => ?_) (fun hc33 => ?_)⟩
  rotate_left
  ·simp at hc33
  try simp at hc33
  try have hX : ¬ a9e n := a0k (by simpa using hc33)
  refine exR (x0x rfl (x6x ⟨.inr rfl, ?_⟩))
  refine y9y rfl ?_ rfl
  exact congrArg (fun b : Bool => [AV.pv (.bool b)]) (a5l (fun h => by obtain ⟨⟨q1, q2, q3, q4, q5, q6, q7, q8, q9⟩, q0⟩ := h; exact hX q1.1))
 have f1 : 0 ≤ n.id ∧ n.id ≤ 2 := hg2
 refine x1x 2 rfl rfl (z1z rfl rfl (x9x rfl rfl rfl (w0w ..) (z1z rfl rfl (x9x rfl rfl rfl (u7u ..) (x1x 3 rfl rfl (z9z rfl rfl ?_ ?_))))))<;>intro hg3<;>try simp at hg3
 ·have hX : ¬ (1 ≤ n.inc ∧ n.inc ≤ 9999) := by omega
  refine x1x 29 rfl rfl ⟨by kernel_rfl, x7x rfl (fun hc32 => ?_) (fun hc32 => ?_)⟩
  rotate_left
  ·simp at hc32
  try simp at hc32
  try have hX : ¬ a9e n := a0k (by simpa using hc32)
  refine exR (x0x rfl (x6x ⟨.inr rfl, ?_⟩))
  refine y9y rfl ?_ rfl
  exact congrArg (fun b : Bool => [AV.pv (.bool b)]) (a5l (fun h => by obtain ⟨⟨q1, q2, q3, q4, q5, q6, q7, q8, q9⟩, q0⟩ := h; exact hX q1.2.1))
 have f2 : 1 ≤ n.inc ∧ n.inc ≤ 9999 := hg3
 refine x1x 2 rfl rfl (z1z rfl rfl (x9x rfl rfl rfl (u7u ..) (x1x 3 rfl rfl (z9z rfl rfl ?_ ?_))))<;>intro hg4<;>try simp at hg4
 ·have hX : ¬ (0 ≤ n.g ∧ n.g ≤ 41) := by omega
  refine x1x 23 rfl rfl ⟨by kernel_rfl, x7x rfl (fun hc31 => ?_) (fun hc31 => ?_)⟩
  rotate_left
  ·simp at hc31
  try simp at hc31
  try have hX : ¬ a9e n := a0k (by simpa using hc31)
  refine exR (x0x rfl (x6x ⟨.inr rfl, ?_⟩))
  refine y9y rfl ?_ rfl
  exact congrArg (fun b : Bool => [AV.pv (.bool b)]) (a5l (fun h => by obtain ⟨⟨q1, q2, q3, q4, q5, q6, q7, q8, q9⟩, q0⟩ := h; exact hX q1.2.2.1))
 have f3 : 0 ≤ n.g ∧ n.g ≤ 41 := hg4
 refine x1x 2 rfl rfl (z1z rfl rfl (x9x rfl rfl rfl (w0w ..) (z1z rfl rfl (x9x rfl rfl rfl (u7u ..) (x1x 3 rfl rfl (z9z rfl rfl ?_ ?_))))))<;>intro hg5<;>try simp at hg5
 ·have hX : ¬ (0 ≤ n.led ∧ n.led ≤ 9999) := by omega
  refine x1x 16 rfl rfl ⟨by kernel_rfl, x7x rfl (fun hc30 => ?_) (fun hc30 => ?_)⟩
  rotate_left
  ·simp at hc30
  try simp at hc30
  try have hX : ¬ a9e n := a0k (by simpa using hc30)
  refine exR (x0x rfl (x6x ⟨.inr rfl, ?_⟩))
  refine y9y rfl ?_ rfl
  exact congrArg (fun b : Bool => [AV.pv (.bool b)]) (a5l (fun h => by obtain ⟨⟨q1, q2, q3, q4, q5, q6, q7, q8, q9⟩, q0⟩ := h; exact hX q1.2.2.2.1))
 have f4 : 0 ≤ n.led ∧ n.led ≤ 9999 := hg5
 refine x1x 2 rfl rfl (z1z rfl rfl (x9x rfl rfl rfl (a4i ..) (z1z rfl rfl (x9x rfl rfl rfl (a4c ..) (x1x 3 rfl rfl (z9z rfl rfl ?_ ?_))))))<;>intro hg6<;>try simp at hg6
 ·have hX : ¬ a7k okE a2z n.kept 100 = true := by simpa using hg6
  refine x1x 9 rfl rfl ⟨by kernel_rfl, x7x rfl (fun hc29 => ?_) (fun hc29 => ?_)⟩
  rotate_left
  ·simp at hc29
  try simp at hc29
  try have hX : ¬ a9e n := a0k (by simpa using hc29)
  refine exR (x0x rfl (x6x ⟨.inr rfl, ?_⟩))
  refine y9y rfl ?_ rfl
  exact congrArg (fun b : Bool => [AV.pv (.bool b)]) (a5l (fun h => by obtain ⟨⟨q1, q2, q3, q4, q5, q6, q7, q8, q9⟩, q0⟩ := h; exact hX q2))
 have f5 : a7k okE a2z n.kept 100 = true := hg6
 refine x1x 2 rfl rfl (z1z rfl rfl (x9x rfl rfl rfl (a7o ..) (x1x 3 rfl rfl (z9z rfl rfl ?_ ?_))))<;>intro hg7<;>try simp at hg7
 ·have hX : ¬ a7k okO b0r n.outs 96 = true := by simpa using hg7
  refine x1x 3 rfl rfl ⟨by kernel_rfl, x7x rfl (fun hc28 => ?_) (fun hc28 => ?_)⟩
  rotate_left
  ·simp at hc28
  try simp at hc28
  try have hX : ¬ a9e n := a0k (by simpa using hc28)
  refine exR (x0x rfl (x6x ⟨.inr rfl, ?_⟩))
  refine y9y rfl ?_ rfl
  exact congrArg (fun b : Bool => [AV.pv (.bool b)]) (a5l (fun h => by obtain ⟨⟨q1, q2, q3, q4, q5, q6, q7, q8, q9⟩, q0⟩ := h; exact hX q3))
 have f6 : a7k okO b0r n.outs 96 = true := hg7
 refine x5x rfl y5y rfl rfl rfl (z1z rfl rfl (x9x rfl rfl rfl (c1y ..) (x1x 2 rfl rfl ⟨by kernel_rfl, x7x rfl ?_ ?_⟩)))<;>intro hc8<;>try simp at hc8
 ·try have hX : ¬ a9e n := a0k (by simpa using hc8)
  refine exR (x0x rfl (x6x ⟨.inr rfl, ?_⟩))
  refine y9y rfl ?_ rfl
  exact congrArg (fun b : Bool => [AV.pv (.bool b)]) (a5l (fun h => by obtain ⟨⟨q1, q2, q3, q4, q5, q6, q7, q8, q9⟩, q0⟩ := h; exact hX ⟨q6, q7, q1.2.2.2.2.1, q1.2.2.2.2.2.1, q1.2.2.2.2.2.2, q9⟩))
 have fF : a9e n := a1o.1 (by simpa using hc8)
 have fo96 := (s7s f6).1
 refine x8x (hK1 _ _ ?_)
 refine a0c (ι := Unit) (fun _i γ1 => []) (fun _i γ1 => []) (fun _i => ∀ (i : Nat) a, n.outs[i]? = some a → a.time < n.g) (y3y 1 rfl Cov.nil) (y8y 0 rfl HE.nil) ?_ fun _i γ1 hi => ?_
 ·refine exD (x1x 2 rfl rfl (z3z rfl r3r rfl (x1x 2 rfl rfl (z9z rfl rfl ?_ ?_))))<;>intro hg9<;>try simp at hg9
  ·have g0 : n.outs.length = 0 := by (rw [hg9]; rfl)
   have fO : ∀ (i : Nat) a, n.outs[i]? = some a → a.time < n.g := fun i a ha => by have := (List.getElem?_eq_some_iff.1 ha).1; omega
   refine x1x 12 rfl rfl ⟨by kernel_rfl, x7x rfl (fun hc11 => ?_) (fun hc11 => ?_)⟩
   ·simp at hc11
   try simp at hc11
   try have fO : ∀ (i : Nat) a, n.outs[i]? = some a → a.time < n.g := c8z f6 ho (by omega)
   refine x8x ?_
   exact ⟨(), fO, [], cv, cv, hv, hv, rfl⟩
  have g0 : 0 < n.outs.length := by omega
  obtain ⟨o, ho⟩ := gE n.outs (n.outs.length - 1)
  refine x1x 4 rfl rfl (z1z rfl rfl (z3z rfl r3r rfl (z1z rfl rfl (a0h (b := 1) rfl rfl (by omega) (by omega) (z1z rfl rfl (y7y rfl rfl r3r rfl w7w rfl ho (x1x 6 rfl rfl ⟨by kernel_rfl, y4y rfl ?_ ?_⟩)))))))<;>intro u<;>try simp at u
  ·try have fO : ∀ (i : Nat) a, n.outs[i]? = some a → a.time < n.g := c8z f6 ho (by omega)
   refine x8x ?_
   exact ⟨(), fO, [], cv, cv, hv, hv, rfl⟩
  have hX : ¬ o.time < n.g := by omega
  refine exR (x0x rfl (x6x ⟨.inr rfl, ?_⟩))
  refine y9y rfl ?_ rfl
  exact congrArg (fun b : Bool => [AV.pv (.bool b)]) (a5l (fun h => by obtain ⟨⟨q1, q2, q3, q4, q5, q6, q7, q8, q9⟩, q0⟩ := h; exact hX (q4 _ _ ho)))
 ·try dsimp only [b2o, b2p]
  have fO := hi
  refine exA 2 rfl rfl (x9x rfl rfl rfl (b3a ..) (x0x rfl (x2x fun K12 hK12 => ?_)))
  refine exA 2 rfl rfl (z3z rfl r5r rfl (x4x rfl (z3z rfl r5r rfl (v6v rfl rfl rfl (x7x rfl ?_ ?_)))))<;>intro u<;>try simp at u
  ·refine exR (x0x rfl (x6x ⟨.inr rfl, ?_⟩))
   refine y9y rfl ?_ rfl
   exact congrArg (fun b : Bool => [AV.pv (.bool b)]) (a5l (fun h => by obtain ⟨⟨q1, q2, q3, q4, q5, q6, q7, q8, q9⟩, q0⟩ := h; omega))
  have fL : n.lanes.length = (s2s n.id 4).length := by omega
  refine x8x (hK12 _ _ (x2x fun K14 hK14 => ?_))
  refine exR (x0x rfl (y0y ?_))
  refine z2z (ι := Nat) (fun i γ2 => [(4, pI (i : Int))]) (fun i γ2 => []) (fun i => i ≤ (s2s n.id 4).length ∧ c7i n.lanes (fun j l => (s2s n.id 4)[j]? = some l.proc ∧ a6t l = true) i) (fun i => (s2s n.id 4).length - i) (cK [1, 3] rfl) (y8y 0 rfl HE.nil) 0 ⟨by omega, a2i⟩ [] cv hv rfl fun i γ2 hi => ?_
  obtain ⟨b1, b2⟩ := hi
  refine x2x fun K15 hK15 => ?_
  refine exA 2 rfl rfl (z3z rfl r5r rfl (v6v rfl rfl rfl (x7x rfl ?_ ?_)))<;>intro u<;>try simp at u
  ·obtain ⟨l, hl⟩ := gE n.lanes i
   obtain ⟨p, hp⟩ := gE (s2s n.id 4) i
   refine x8x (hK15 _ _ (x2x fun K17 hK17 => ?_))
   refine y0y (exD (x1x 3 rfl rfl (y7y rfl rfl r5r rfl v7v rfl hl (u5u rfl v7v rfl rfl (x9x rfl rfl rfl (a4j ..) (x1x 2 rfl rfl (z9z rfl rfl ?_ ?_)))))))<;>intro hg18<;>try simp at hg18
   ·have hX : ¬ a6t l = true := by simpa using hg18
    refine x1x 12 rfl rfl ⟨by kernel_rfl, x7x rfl (fun hc20 => ?_) (fun hc20 => ?_)⟩
    rotate_left
    ·simp at hc20
    try simp at hc20
    try have hX : ¬ l.proc = p := by first | exact hc20 | (simpa [b1o] using hc20)
    refine exR (x0x rfl (x6x ⟨.inr rfl, ?_⟩))
    refine y9y rfl ?_ rfl
    exact congrArg (fun b : Bool => [AV.pv (.bool b)]) (a5l (fun h => by obtain ⟨⟨q1, q2, q3, q4, q5, q6, q7, q8, q9⟩, q0⟩ := h; exact hX (q8 _ _ hl).2))
   have hlo : a6t l = true := hg18
   refine x1x 3 rfl rfl (z1z rfl rfl (y7y rfl rfl r5r rfl v7v rfl hl (x1x 4 rfl rfl (z1z rfl rfl (y7y rfl rfl r5r rfl v7v rfl hp (x1x 4 rfl rfl ⟨by kernel_rfl, y4y rfl ?_ ?_⟩))))))<;>intro hc19<;>try simp at hc19
   ·have hpe : l.proc = p := hc19
    refine x8x (hK17 _ _ (exG (x4x rfl (z5z (b := 1) rfl rfl (by omega) (x0x rfl ?_)))))
    exact ⟨i + 1, ⟨⟨by omega, a0i b2 hl ⟨by rw [hp, hpe], hlo⟩⟩, by omega⟩, [], cv, cv, hv, hv, rfl⟩
   try have hX : ¬ l.proc = p := hc19
   refine exR (x0x rfl (x6x ⟨.inr rfl, ?_⟩))
   refine y9y rfl ?_ rfl
   exact congrArg (fun b : Bool => [AV.pv (.bool b)]) (a5l (fun h => by obtain ⟨⟨q1, q2, q3, q4, q5, q6, q7, q8, q9⟩, q0⟩ := h; have := (q8 _ _ hl).1; rw [hp] at this; exact hX (Option.some.inj this).symm))
  have fN : e3b n := a3q b2 (by omega)
  refine z4z (hK14 _ _ (x2x fun K21 hK21 => ?_))
  refine exR (x0x rfl (y0y ?_))
  refine z2z (ι := Nat) (fun j γ3 => [(5, pI (j : Int))]) (fun j γ3 => []) (fun j => j ≤ (s2s n.id 4).length ∧ c7i n.lanes (fun j l => ∀ p, (s2s n.id 4)[j]? = some p → l.done.length ≤ same l.done (a1x n p) ∧ (a1x n p).length ≤ 100) j) (fun j => (s2s n.id 4).length - j) (cK [1, 3] rfl) (y8y 0 rfl HE.nil) 0 ⟨by omega, a2i⟩ [] cv hv rfl fun j γ3 hi => ?_
  obtain ⟨d1, d2⟩ := hi
  refine x2x fun K22 hK22 => ?_
  refine exA 2 rfl rfl (z3z rfl r5r rfl (v6v rfl rfl rfl (y4y rfl ?_ ?_)))<;>intro u<;>try simp at u
  ·have fC := fun (i : Nat) p l (a : (s2s n.id 4)[i]? = some p) (b : n.lanes[i]? = some l) => a3q d2 (by omega) i l b p a
   refine z4z (hK21 _ _ (exR (x0x rfl (x6x ⟨.inr rfl, ?_⟩))))
   refine y9y rfl ?_ rfl
   exact congrArg (fun b : Bool => [AV.pv (.bool b)]) (e1v ⟨⟨⟨f1, f2, f3, f4, fF.2.2.1, fF.2.2.2.1, fF.2.2.2.2.1⟩, f5, f6, fO, fL, fF.1, fF.2.1, fN, fF.2.2.2.2.2⟩, fC⟩)
  obtain ⟨l, hl⟩ := gE n.lanes j
  obtain ⟨p, hp⟩ := gE (s2s n.id 4) j
  obtain ⟨hdl, _⟩ := a2p (fN j l hl).2
  refine x8x (hK22 _ _ (x2x fun K24 hK24 => ?_))
  refine y0y (exD (x1x 3 rfl rfl (y7y rfl rfl r5r rfl v7v rfl hl (x1x 4 rfl rfl (y7y rfl rfl r5r rfl v7v rfl hp (x1x 2 rfl rfl ?_))))))
  refine x9x rfl rfl rfl (a3k c n p (by have := c6d f5 (by omega) fN; have := c6e fF.1 fF.2.1 fF.2.2.2.2.2; omega) (by omega) fF.1) ?_
  refine x9x rfl rfl rfl (a9h ..) (x1x 3 rfl rfl (y7y rfl rfl r5r rfl v7v rfl hl (x1x 2 rfl rfl (z3z rfl r9r rfl (x1x 2 rfl rfl (z9z rfl rfl ?_ ?_))))))<;>intro u<;>try simp at u
  ·refine x1x 10 rfl rfl ⟨by kernel_rfl, x7x rfl (fun hc27 => ?_) (fun hc27 => ?_)⟩
   rotate_left
   ·simp at hc27
   try simp at hc27
   refine exR (x0x rfl (x6x ⟨.inr rfl, ?_⟩))
   refine y9y rfl ?_ rfl
   exact congrArg (fun b : Bool => [AV.pv (.bool b)]) (a5l (fun h => by obtain ⟨⟨q1, q2, q3, q4, q5, q6, q7, q8, q9⟩, q0⟩ := h; have := q0 _ _ _ hp hl; omega))
  refine x1x 3 rfl rfl (z1z rfl rfl (y7y rfl rfl r5r rfl v7v rfl hp (x1x 2 rfl rfl (z1z rfl rfl ?_))))
  refine x9x rfl rfl rfl (a3k c n p (by have := c6d f5 (by omega) fN; have := c6e fF.1 fF.2.1 fF.2.2.2.2.2; omega) (by omega) fF.1) ?_
  refine z1z rfl rfl (z3z rfl u8u rfl (z1z rfl rfl (x9x rfl rfl rfl (a4i ..) (x1x 2 rfl rfl ⟨by kernel_rfl, y4y rfl ?_ ?_⟩))))<;>intro u<;>try simp at u
  ·refine x8x (hK24 _ _ (exG (x4x rfl (z5z (b := 1) rfl rfl (by omega) (x0x rfl ?_)))))
   exact ⟨j + 1, ⟨⟨by omega, a0i d2 hl (fun p2 hp2 => by rw [hp] at hp2; cases hp2; omega)⟩, by omega⟩, [], cv, cv, hv, hv, rfl⟩
  refine exR (x0x rfl (x6x ⟨.inr rfl, ?_⟩))
  refine y9y rfl ?_ rfl
  exact congrArg (fun b : Bool => [AV.pv (.bool b)]) (a5l (fun h => by obtain ⟨⟨q1, q2, q3, q4, q5, q6, q7, q8, q9⟩, q0⟩ := h; have := q0 _ _ _ hp hl; omega))
end
section
theorem a8g (c : Bool) (n : Nd) (t : Nat) (ht : t < 3) (hk3 : n.known.length = 3) (hs : (a1u n).length ≤ 5000000) (hlen : n.lanes.length ≤ 1048576) : a1r Tryz.prog 135 [.agg (w5w c n), .pv (.int .i64 (t : Int))] (a2e true (a3r n (t : Int))) := by
 refine pX Tryz.f135 [a2e true (a3r n (t : Int))] 5 ?_
 obtain ⟨kn, hkn⟩ := gE n.known t
 rw [d8v hkn]
 refine exR (u2u (id := 0) rfl rfl rfl (x0x rfl (exR (x5x rfl y5y rfl rfl rfl ?_))))
 refine rlM [4] [_] (b4f c n (by omega) hlen) rfl rfl rfl ?_
 refine x0x rfl (a0l 5 rfl rfl (fun _ => rfl) ?_)
 refine exR (z8z (id := 1) u8u rfl z6z rfl (x0x rfl (x2x fun K1 hK1 => ?_)))
 refine exR (x0x rfl (y0y ?_))
 refine z2z (ι := Nat) (fun j γ1 => [(6, .ref 1 (γ1 1)), (7, pI (j : Int))]) (fun j γ1 => [(1, ((γ1 1), .row 56 7 ((((a1u n).take j).filter (b5f (t : Int) kn)).map v5v))), (2, ((γ1 2), .dead)), (3, ((γ1 3), .dead))]) (fun j => j ≤ (a1u n).length) (fun j => (a1u n).length - j) (cK [1, 2, 5] rfl) (hK [0, 4] rfl) 0 (by omega) [0, _, _, _] cv (HE.row rfl (by rw [List.take_zero]; rfl) (HE.kill rfl (HE.kill rfl HE.nil))) rfl fun j γ1 hi => ?_
 refine x2x fun K2 hK2 => ?_
 refine exA 2 rfl rfl (z3z rfl u8u rfl (v6v rfl rfl rfl (y4y rfl ?_ ?_)))<;>intro h<;>try simp at h
 ·obtain rfl : j = (a1u n).length := by omega
  rw [List.take_length]
  refine z4z (hK1 _ _ (a0l 6 rfl rfl (fun _ => rfl) ?_))
  refine exR (x4x rfl (x9x rfl rfl rfl (a2g true ((a1u n).filter (b5f (t : Int) kn)) (Nat.le_trans (List.length_filter_le _ _) (by omega))) ?_))
  refine x0x rfl (x6x ⟨.inr rfl, ?_⟩)
  refine y9y rfl rfl rfl
 obtain ⟨p, hp⟩ := gE (a1u n) j
 have hfl : (((a1u n).take j).filter (b5f (t : Int) kn)).length ≤ 5000000 := Nat.le_trans (List.length_filter_le _ _) (by rw [List.length_take]; omega)
 refine x8x (hK2 _ _ (x2x fun K4 hK4 => ?_))
 refine y0y (exD (x1x 2 rfl rfl (y7y rfl rfl u8u rfl z6z rfl hp (x1x 2 rfl rfl (x9x rfl rfl rfl (a1k ..) (x1x 3 rfl rfl (z9z rfl rfl ?_ ?_)))))))<;>intro hg5<;>try simp at hg5
 ·have hw : ¬ b5f (t : Int) kn p = true := by simp only [b5f, decide_eq_true_eq]; omega
  refine x1x 11 rfl rfl ⟨by kernel_rfl, x7x rfl (fun hc7 => ?_) (fun hc7 => ?_)⟩
  ·simp at hc7
  try simp at hc7
  try have hw : ¬ b5f (t : Int) kn p = true := by simp only [b5f, decide_eq_true_eq]; omega
  refine x8x (hK4 _ _ (exG (x4x rfl (p5p rfl rfl rfl (x0x rfl ?_)))))
  exact ⟨j + 1, ⟨by omega, by omega⟩, [0, _, _, _], (y3y 6 rfl (Cov.cons' (t := 7) rfl (by rw [u4u (by omega) (by omega)]; rfl) Cov.nil)), cv, (HE.row rfl (by rw [a0z hp]; rw [if_neg hw, List.append_nil]) (HE.kill rfl (HE.kill rfl HE.nil))), hv, rfl⟩
 have hw1 : s1s p.to = (t : Int) := hg5
 refine x1x 2 rfl rfl (z1z rfl rfl (y7y rfl rfl u8u rfl z6z rfl hp (x1x 5 rfl rfl (z1z rfl rfl (y7y rfl rfl q2q rfl q1q rfl hkn (x1x 3 rfl rfl ⟨by kernel_rfl, y4y rfl ?_ ?_⟩))))))<;>intro h<;>try simp at h
 ·try have hw : ¬ b5f (t : Int) kn p = true := by simp only [b5f, decide_eq_true_eq]; omega
  refine x8x (hK4 _ _ (exG (x4x rfl (p5p rfl rfl rfl (x0x rfl ?_)))))
  exact ⟨j + 1, ⟨by omega, by omega⟩, [0, _, _, _], (y3y 6 rfl (Cov.cons' (t := 7) rfl (by rw [u4u (by omega) (by omega)]; rfl) Cov.nil)), cv, (HE.row rfl (by rw [a0z hp]; rw [if_neg hw, List.append_nil]) (HE.kill rfl (HE.kill rfl HE.nil))), hv, rfl⟩
 have hw : b5f (t : Int) kn p = true := by simp only [b5f, decide_eq_true_eq]; omega
 refine exG (x1x 3 rfl rfl (y7y rfl rfl u8u rfl z6z rfl hp (u5u rfl z6z rfl rfl (u3u (id := 2) u8u rfl z6z rfl rfl rfl rfl rfl rfl ?_))))
 refine u6u (zs := (((a1u n).take j).filter (b5f (t : Int) kn) ++ [p]).map v5v) rfl rfl u8u rfl z6z rfl rfl rfl rfl (by rfl) (w2w _ _ _) (by (simp only [a1c, a0m, a0u, a0v, a1z, a4b, T56] at *; omega)) ?_
 refine x0x rfl (hK4 _ _ (exG (x4x rfl (p5p rfl rfl rfl (x0x rfl ?_)))))
 exact ⟨j + 1, ⟨by omega, by omega⟩, [0, _, _, _], (y3y 6 rfl (Cov.cons' (t := 7) rfl (by rw [u4u (by omega) (by omega)]; rfl) Cov.nil)), cv, (HE.row rfl (by rw [a0z hp]; rw [if_pos hw]) (HE.kill rfl (HE.kill rfl HE.nil))), hv, rfl⟩
end
section
theorem c3r (c c' : Bool) (l l' : List Ev) : a1r Tryz.prog 251 [a2e c l, a2e c' l'] (.pv (.bool (decide (l = l')))) := by
 refine pX Tryz.f251 [.pv (.bool (decide (l = l')))] 0 ?_
 refine r1r 0 rfl fun hlen => ?_
 refine exR (x0x rfl (x2x fun K1 hK1 => ?_))
 refine exR (x4x rfl (z3z rfl u8u rfl (x4x rfl (z3z rfl u8u rfl (v6v rfl rfl rfl (x7x rfl ?_ ?_))))))<;>intro o<;>try simp at o
 ·refine exR (x0x rfl (x6x ⟨.inr rfl, ?_⟩))
  refine y9y rfl ?_ rfl
  exact f3x (by omega)
 refine x8x (hK1 _ _ (x2x fun K3 hK3 => ?_))
 refine exR (x0x rfl (y0y ?_))
 refine z2z (ι := Nat) (fun i γ1 => [(5, pI (i : Int))]) (fun i γ1 => []) (fun i => i ≤ l.length ∧ l.length = l'.length ∧ l.take i = l'.take i) (fun i => l.length - i) (cK [0, 1] rfl) HE.nil 0 ⟨by omega, by omega, rfl⟩ [] cv hv rfl fun i γ1 hi => ?_
 obtain ⟨h1, h2, h3⟩ := hi
 refine x2x fun K4 hK4 => ?_
 refine exA 2 rfl rfl (z3z rfl u8u rfl (v6v rfl rfl rfl (y4y rfl ?_ ?_)))<;>intro o<;>try simp at o
 ·refine z4z (hK3 _ _ (exR (x0x rfl (x6x ⟨.inr rfl, ?_⟩))))
  refine y9y rfl ?_ rfl
  exact eqT h3 (by omega) (by omega)
 refine x8x (hK4 _ _ (x2x fun K6 hK6 => ?_))
 refine y0y (exD (x1x 2 rfl rfl ?_))
 obtain ⟨x, hx⟩ := gE l i
 refine y7y rfl rfl u8u rfl z6z rfl hx (x1x 3 rfl rfl ?_)
 obtain ⟨y, hy⟩ := gE l' i
 refine y7y rfl rfl u8u rfl z6z rfl hy (u5u rfl z6z rfl rfl (c0n rfl rfl (by intro p q h; cases h) (.inr rfl) (e8f _ _ _ _) ?_))
 refine ⟨by kernel_rfl, y4y rfl ?_ ?_⟩<;>intro hc7<;>try simp at hc7
 ·have hxy : x = y := by simpa [a6p] using hc7
  refine x8x (hK6 _ _ (exG (x4x rfl ?_)))
  refine a0y (.int .i64 ((i + 1 : Nat) : Int)) rfl rfl rfl (a9c rfl (by omega) (by omega) (by have := hlen; omega)) ?_
  refine x0x rfl ?_
  exact ⟨i + 1, ⟨⟨by omega, h2, c9i h3 hx hy (by assumption)⟩, by omega⟩, [], cv, cv, hv, hv, rfl⟩
 have hxy : ¬ x = y := by simpa [a6p] using hc7
 refine exR (x0x rfl (x6x ⟨.inr rfl, ?_⟩))
 refine y9y rfl ?_ rfl
 exact f3y hx hy (by assumption)
theorem b1m (c : Bool) (a b : List Ev) (g : Int) : a1r Tryz.prog 169 [a2e c a, a2e c b, .pv (.int .i64 g)] (.pv (.int .i64 (chg g a (chg g b 41 a) b))) := by
 refine pX Tryz.f169 [.pv (.int .i64 (chg g a (chg g b 41 a) b))] 0 ?_
 refine exR (x0x rfl (exR (x0x rfl (x2x fun K1 hK1 => ?_))))
 refine exR (x0x rfl (y0y ?_))
 refine z2z (ι := Nat) (fun k γ1 => [(0, a2e c (swK a b k)), (1, a2e c (swK b a k)), (7, pI (e5w g a b k)), (8, pI (k : Int))]) (fun k γ1 => []) (fun k => k ≤ 2) (fun k => 2 - k) (y3y 2 rfl Cov.nil) HE.nil 0 (by omega) [] (Cov.cons' (t := 0) rfl (rfl) (Cov.cons' (t := 1) rfl (rfl) (Cov.cons' (t := 7) rfl (rfl) (y3y 8 rfl Cov.nil)))) hv rfl fun k γ1 hi => ?_
 refine x2x fun K2 hK2 => ?_
 refine exA 2 rfl rfl (y4y rfl ?_ ?_)<;>intro o<;>try simp at o
 ·obtain rfl : k = 2 := by omega
  refine z4z (hK1 _ _ (exA 2 rfl rfl (x6x ⟨.inr rfl, ?_⟩)))
  exact y9y rfl rfl rfl
 refine x8x (hK2 _ _ (x2x fun K4 hK4 => ?_))
 refine y0y (x2x fun K5 hK5 => ?_)
 refine exR (x0x rfl (y0y (r1r 0 rfl fun hlen0 => ?_)))
 refine z2z (ι := Nat) (fun i γ2 => [(7, pI (chg g (swK b a k) (e5w g a b k) ((swK a b k).take i))), (9, pI (i : Int))]) (fun i γ2 => []) (fun i => i ≤ (swK a b k).length) (fun i => (swK a b k).length - i) (cK [0, 1, 2, 8] rfl) HE.nil 0 (by omega) [] (Cov.cons' (t := 7) rfl (by rw [List.take_zero]; rfl) (y3y 9 rfl Cov.nil)) hv rfl fun i γ2 hi => ?_
 refine x2x fun K6 hK6 => ?_
 refine exA 2 rfl rfl (z3z rfl u8u rfl (v6v rfl rfl rfl (y4y rfl ?_ ?_)))<;>intro o<;>try simp at o
 ·obtain rfl : i = (swK a b k).length := by omega
  refine z4z (hK5 _ _ (exA 2 rfl rfl (exA 2 rfl rfl (exG (x1x 2 rfl rfl (hK4 _ _ (exG (x4x rfl (z5z (b := 1) rfl rfl (by omega) (x0x rfl ?_))))))))))
  exact ⟨k + 1, ⟨by omega, by omega⟩, [], (Cov.cons' (t := 0) rfl (by rw [d3p (by omega)]) (Cov.cons' (t := 1) rfl (by rw [d3p (by omega)]) (Cov.cons' (t := 7) rfl (by rw [d9o (by omega), List.take_length]) (y3y 8 rfl Cov.nil)))), cv, hv, hv, rfl⟩
 obtain ⟨x, hx⟩ := gE (swK a b k) i
 refine x8x (hK6 _ _ (x2x fun K8 hK8 => ?_))
 refine y0y (exR (x0x rfl (x2x fun K9 hK9 => ?_)))
 refine exR (x0x rfl (y0y (r1r 1 rfl fun hlen1 => ?_)))
 refine z2z (ι := Nat) (fun j γ3 => [(10, .pv (.bool (decide (x ∈ (swK b a k).take j)))), (11, pI (j : Int))]) (fun j γ3 => []) (fun j => j ≤ (swK b a k).length) (fun j => (swK b a k).length - j) (cK [0, 1, 2, 7, 8, 9] rfl) HE.nil 0 (by omega) [] (Cov.cons' (t := 10) rfl (by simp) (y3y 11 rfl Cov.nil)) hv rfl fun j γ3 hi => ?_
 refine x2x fun K10 hK10 => ?_
 refine exA 2 rfl rfl (z3z rfl u8u rfl (v6v rfl rfl rfl (x7x rfl ?_ ?_)))<;>intro o<;>try simp at o
 ·obtain ⟨z, hz⟩ := gE (swK b a k) j
  refine x8x (hK10 _ _ (x2x fun K12 hK12 => ?_))
  refine y0y (exH (x1x 2 rfl rfl (z9z rfl rfl ?_ ?_)))<;>intro hg13<;>try simp at hg13
  ·have hin : x ∈ (swK b a k).take j := by simpa using hg13
   refine x1x 10 rfl rfl ⟨by kernel_rfl, hK12 _ _ (exG (x4x rfl (z5z (b := 1) rfl rfl (by omega) (x0x rfl ?_))))⟩
   exact ⟨j + 1, ⟨by omega, by omega⟩, [], (Cov.cons' (t := 10) rfl (by rw [w1w hz]; (simp [hin]; done)) (y3y 11 rfl Cov.nil)), cv, hv, hv, rfl⟩
  have hin : ¬ x ∈ (swK b a k).take j := by simpa using hg13
  refine x1x 2 rfl rfl (z1z rfl rfl (y7y rfl rfl u8u rfl z6z rfl hx (x1x 3 rfl rfl (z1z rfl rfl (y7y rfl rfl u8u rfl z6z rfl hz (z1z rfl rfl (u5u rfl z6z rfl rfl (z1z rfl rfl (c0n rfl rfl (by intro a c h; cases h) (.inl rfl) (e8f _ _ _ _) ?_)))))))))
  refine x1x 2 rfl rfl ⟨by kernel_rfl, hK12 _ _ (exG (x4x rfl (z5z (b := 1) rfl rfl (by omega) (x0x rfl ?_))))⟩
  exact ⟨j + 1, ⟨by omega, by omega⟩, [], (Cov.cons' (t := 10) rfl (by rw [w1w hz]; (simp [hin]; rfl)) (y3y 11 rfl Cov.nil)), cv, hv, hv, rfl⟩
 obtain rfl : j = (swK b a k).length := by omega
 rw [List.take_length]
 refine z4z (hK9 _ _ (exA 3 rfl rfl (z9z rfl rfl ?_ ?_)))<;>intro hg14<;>try simp at hg14
 ·have hn : ¬ (g ≤ x.time ∧ x.time < chg g (swK b a k) (e5w g a b k) ((swK a b k).take i) ∧ ¬ x ∈ swK b a k) := fun q => q.2.2 (by simpa using hg14)
  refine x1x 16 rfl rfl (x7x rfl (fun hc18 => ?_) (fun hc18 => ?_))
  ·simp at hc18
  try simp at hc18
  refine x8x (hK8 _ _ (exG (x4x rfl (z5z (b := 1) rfl rfl (by omega) (x0x rfl ?_)))))
  exact ⟨i + 1, ⟨by omega, by omega⟩, [], (Cov.cons' (t := 7) rfl (by rw [b6v hx, if_neg hn]) (y3y 9 rfl Cov.nil)), cv, hv, hv, rfl⟩
 have hm : ¬ x ∈ swK b a k := by simpa using hg14
 refine x1x 2 rfl rfl (z1z rfl rfl (y7y rfl rfl u8u rfl z6z rfl hx (x1x 6 rfl rfl (z9z rfl rfl ?_ ?_))))<;>intro o<;>try simp at o
 ·have hn : ¬ (g ≤ x.time ∧ x.time < chg g (swK b a k) (e5w g a b k) ((swK a b k).take i) ∧ ¬ x ∈ swK b a k) := fun q => (by have := q.1; omega)
  refine x1x 7 rfl rfl (x7x rfl (fun hc17 => ?_) (fun hc17 => ?_))
  ·simp at hc17
  try simp at hc17
  refine x8x (hK8 _ _ (exG (x4x rfl (z5z (b := 1) rfl rfl (by omega) (x0x rfl ?_)))))
  exact ⟨i + 1, ⟨by omega, by omega⟩, [], (Cov.cons' (t := 7) rfl (by rw [b6v hx, if_neg hn]) (y3y 9 rfl Cov.nil)), cv, hv, hv, rfl⟩
 refine x1x 2 rfl rfl (z1z rfl rfl (y7y rfl rfl u8u rfl z6z rfl hx (x1x 5 rfl rfl (y4y rfl ?_ ?_))))<;>intro o<;>try simp at o
 ·have hn : ¬ (g ≤ x.time ∧ x.time < chg g (swK b a k) (e5w g a b k) ((swK a b k).take i) ∧ ¬ x ∈ swK b a k) := by exact fun q => (by have := q.2.1; omega)
  refine x8x (hK8 _ _ (exG (x4x rfl (z5z (b := 1) rfl rfl (by omega) (x0x rfl ?_)))))
  exact ⟨i + 1, ⟨by omega, by omega⟩, [], (Cov.cons' (t := 7) rfl (by rw [b6v hx, if_neg hn]) (y3y 9 rfl Cov.nil)), cv, hv, hv, rfl⟩
 have hy : g ≤ x.time ∧ x.time < chg g (swK b a k) (e5w g a b k) ((swK a b k).take i) ∧ ¬ x ∈ swK b a k := ⟨by omega, by omega, hm⟩
 refine exG (x1x 2 rfl rfl (y7y rfl rfl u8u rfl z6z rfl hx (x1x 3 rfl rfl (hK8 _ _ (exG (x4x rfl (z5z (b := 1) rfl rfl (by omega) (x0x rfl ?_))))))))
 exact ⟨i + 1, ⟨by omega, by omega⟩, [], (Cov.cons' (t := 7) rfl (by (rw [b6v hx, if_pos hy] <;> rfl)) (y3y 9 rfl Cov.nil)), cv, hv, hv, rfl⟩
theorem b3c (n : Nd) (hw : wk n) : Meth Tryz.prog 171 3 [0, 1, 2] [.agg [pI n.id, .pv (.bool n.up), pI n.inc, pI n.g, .ref 0 0, a2e true n.kept, a0t true n.outs, pI n.led, pI n.version, .ref 1 0, .ref 2 0, pI n.round, pI n.low]] [(0, (0, .row 44 5 ((n.lanes).map (a0j true)))), (1, (0, .row 190 3 ((n.views).map (a5k true)))), (2, (0, .row 3 1 (n.known.map a8u)))] (.agg [pI (nl n (a0f n n.lanes)).id, .pv (.bool (nl n (a0f n n.lanes)).up), pI (nl n (a0f n n.lanes)).inc, pI (nl n (a0f n n.lanes)).g, .ref 0 0, a2e true (nl n (a0f n n.lanes)).kept, a0t true (nl n (a0f n n.lanes)).outs, pI (nl n (a0f n n.lanes)).led, pI (nl n (a0f n n.lanes)).version, .ref 1 0, .ref 2 0, pI (nl n (a0f n n.lanes)).round, pI (nl n (a0f n n.lanes)).low]) [(0, (0, .row 44 5 ((a0f n n.lanes).map (a0j true))))] := by
 refine mX Tryz.f171 [.agg [pI (nl n (a0f n n.lanes)).id, .pv (.bool (nl n (a0f n n.lanes)).up), pI (nl n (a0f n n.lanes)).inc, pI (nl n (a0f n n.lanes)).g, .ref 0 0, a2e true (nl n (a0f n n.lanes)).kept, a0t true (nl n (a0f n n.lanes)).outs, pI (nl n (a0f n n.lanes)).led, pI (nl n (a0f n n.lanes)).version, .ref 1 0, .ref 2 0, pI (nl n (a0f n n.lanes)).round, pI (nl n (a0f n n.lanes)).low]] 3 2 fun γ => ?_
 refine exR (u2u (id := 3) rfl rfl rfl (y6y (id := 4) y5y s9s rfl (exR (x0x rfl (x2x fun K1 hK1 => ?_)))))
 refine y0y ?_
 refine z2z (ι := List La × Bool) (fun p γ1 => [(3, .pv (.bool (p.2)))]) (fun p γ1 => [(0, ((γ 0), .row 44 5 ((p.1).map (a0j true))))]) (fun p => (p.2 = true → a0f n p.1 = a0f n n.lanes) ∧ (p.2 = false → p.1 = a0f n n.lanes) ∧ wk (nl n p.1)) (fun p => 2 * c6l p.1 + p.2.toNat) (cK [1, 2] rfl) (hK [1, 2, 3, 4] rfl) (n.lanes, true) ⟨fun _ => rfl, fun h => (by cases h), hw⟩ [] cv hv rfl fun p γ1 hi => ?_
 obtain ⟨ls, q⟩ := p
 obtain ⟨h1, h2, h3⟩ := hi
 dsimp only at h1 h2 h3 ⊢
 refine x2x fun K2 hK2 => ?_
 refine exR (x4x rfl (y4y rfl ?_ ?_))<;>intro hc3<;>try simp at hc3
 ·have hq : q = false := by simpa using hc3
  subst hq
  have hfin : ls = a0f n n.lanes := h2 rfl
  refine z4z (hK1 _ _ (exR (x5x rfl y5y rfl rfl rfl (x3x rfl rfl y5y rfl rfl rfl rfl ?_))))
  subst hfin
  refine x6x ?_
  exact ⟨.inr rfl, [γ 0, γ 1, γ 2], rfl, rfl, hv⟩
 have hq : q = true := hc3
 subst hq
 refine x8x (hK2 _ _ (y0y (exR (x0x rfl (exR (x0x rfl (y0y ?_)))))))
 refine z2z (ι := Nat) (fun i γ2 => [(3, .pv (.bool (b0w n ls i))), (4, pI (i : Int))]) (fun i γ2 => [(0, ((γ 0), .row 44 5 ((a3g n ls i).map (a0j true))))]) (fun i => i ≤ ls.length) (fun i => ls.length - i) (cK [1, 2] rfl) (hK [1, 2, 3, 4] rfl) 0 (by omega) [] (Cov.cons' (t := 3) rfl (rfl) (y3y 4 rfl Cov.nil)) hv rfl fun i γ2 hi => ?_
 refine x2x fun K4 hK4 => ?_
 refine exA 3 rfl rfl (a1j rfl r5r rfl rfl (List.length_map _) ?_)
 refine v6v rfl rfl rfl (y4y rfl ?_ ?_)<;>intro o<;>try simp at o
 ·have hpl : (a3g n ls i).length = ls.length := c6m n ls i
  obtain rfl : i = ls.length := by omega
  refine z4z ?_
  exact ⟨(a3g n ls ls.length, b0w n ls ls.length), ⟨⟨fun h => (c6n h).trans (h1 rfl), fun h => (b9u h).trans (h1 rfl), c1r h3 _⟩, (e8a n ls ls.length)⟩, [], cv, cv, hv, hv, rfl⟩
 have hpl : (a3g n ls i).length = ls.length := c6m n ls i
 obtain ⟨l, hp⟩ := gE (a3g n ls i) i
 have h4 := c1r h3 i
 have h41 : (a3g n ls i).length ≤ 4 := h4.1
 have hb4 := h4.2.2.2.2.1 l (List.mem_of_getElem? hp)
 refine x8x (hK4 _ _ (x2x fun K6 hK6 => ?_))
 refine y0y (exD (x1x 3 rfl rfl ?_))
 refine v0v (j := i) rfl rfl r5r rfl v7v rfl rfl (v1v hp) ?_
 refine q0q rfl v7v rfl hp rfl rfl (x1x 4 rfl rfl ?_)
 refine v0v (j := i) rfl rfl r5r rfl v7v rfl rfl (v1v hp) ?_
 refine y1y rfl v7v rfl rfl q1q rfl rfl (a0x rfl q1q rfl hp rfl ?_)
 refine b7s rfl rfl rfl (d1l (n := nl n (a3g n ls i)) rfl rfl rfl (.cl rfl .nil)) (a3k false (nl n (a3g n ls i)) l.proc (e7x h4) (by have := h4.1; omega) h4.2.2.1) (b0f _) ?_
 refine x9x rfl rfl rfl (a9h true true l (a1x (nl n (a3g n ls i)) l.proc)) ?_
 refine x0x rfl ⟨by kernel_rfl, exA 4 rfl rfl ?_⟩
 refine v0v (j := i) rfl rfl r5r rfl v7v rfl rfl (v1v hp) ?_
 refine y1y rfl v7v rfl rfl r9r rfl rfl (a0x rfl r9r rfl hp rfl (z3z rfl r9r rfl (v6v rfl rfl rfl (y4y rfl ?_ ?_))))<;>intro o<;>try simp at o
 ·have hk := d9j (n := n) hp (by show ¬ same l.done (a1x (nl n (a3g n ls i)) l.proc) < l.done.length; omega)
  refine x8x (hK6 _ _ (exG (x4x rfl (p5p rfl rfl rfl (x0x rfl ?_)))))
  exact ⟨i + 1, ⟨by omega, by omega⟩, [], (Cov.cons' (t := 3) rfl (by rw [c4s, hk.2, Bool.or_false]) (Cov.cons' (t := 4) rfl (by rw [u4u (by omega) (by omega)]; rfl) Cov.nil)), cv, (HE.row rfl (by rw [c9h, hk.1]) HE.nil), hv, rfl⟩
 have hk := d9i (n := n) hp (by show same l.done (a1x (nl n (a3g n ls i)) l.proc) < l.done.length; omega)
 refine exD (x1x 6 rfl rfl ?_)
 refine v0v (j := i) rfl rfl r5r rfl v7v rfl rfl (v1v hp) ?_
 refine q0q rfl v7v rfl hp rfl rfl (x4x rfl ?_)
 refine x9x rfl rfl rfl (a3l true l 0 (keep n (a3g n ls i) l) (by omega) (by omega) (by have := e7y n (a3g n ls i) l; omega) (fun p hp => by have := hb4.2 p hp; omega)) ?_
 refine v0v (j := i) rfl rfl r5r rfl v7v rfl rfl (v1v hp) ?_
 refine p9p (el' := a2q l 0 (keep n (a3g n ls i) l)) rfl rfl v7v rfl rfl rfl hp rfl (a0b rfl) rfl rfl ?_
 refine ⟨by kernel_rfl, exG (x0x rfl (hK6 _ _ (exG (x4x rfl (p5p rfl rfl rfl (x0x rfl ?_))))))⟩
 exact ⟨i + 1, ⟨by omega, by omega⟩, [], (Cov.cons' (t := 3) rfl (by rw [c4s, hk.2, Bool.or_true]) (Cov.cons' (t := 4) rfl (by rw [u4u (by omega) (by omega)]; rfl) Cov.nil)), cv, (HE.row rfl (by rw [c9h, hk.1]) HE.nil), hv, rfl⟩
theorem b1n (c : Bool) (n m : Nd) (hn : wk n) (hm : wk m) (hid : n.id = m.id) (hv : 0 ≤ n.version ∧ n.version ≤ 9998) : Meth Tryz.prog 170 3 [0, 1, 2] [.agg (w5w c n), .agg [pI m.id, .pv (.bool m.up), pI m.inc, pI m.g, .ref 0 0, a2e true m.kept, a0t true m.outs, pI m.led, pI m.version, .ref 1 0, .ref 2 0, pI m.round, pI m.low]] [(0, (0, .row 44 5 ((m.lanes).map (a0j true)))), (1, (0, .row 190 3 ((m.views).map (a5k true)))), (2, (0, .row 3 1 (m.known.map a8u)))] (.agg [pI ({ m with version := a5z n m 3 } : Nd).id, .pv (.bool ({ m with version := a5z n m 3 } : Nd).up), pI ({ m with version := a5z n m 3 } : Nd).inc, pI ({ m with version := a5z n m 3 } : Nd).g, .ref 0 0, a2e true ({ m with version := a5z n m 3 } : Nd).kept, a0t true ({ m with version := a5z n m 3 } : Nd).outs, pI ({ m with version := a5z n m 3 } : Nd).led, pI ({ m with version := a5z n m 3 } : Nd).version, .ref 1 0, .ref 2 0, pI ({ m with version := a5z n m 3 } : Nd).round, pI ({ m with version := a5z n m 3 } : Nd).low]) [] := by
 refine mX Tryz.f170 [.agg [pI ({ m with version := a5z n m 3 } : Nd).id, .pv (.bool ({ m with version := a5z n m 3 } : Nd).up), pI ({ m with version := a5z n m 3 } : Nd).inc, pI ({ m with version := a5z n m 3 } : Nd).g, .ref 0 0, a2e true ({ m with version := a5z n m 3 } : Nd).kept, a0t true ({ m with version := a5z n m 3 } : Nd).outs, pI ({ m with version := a5z n m 3 } : Nd).led, pI ({ m with version := a5z n m 3 } : Nd).version, .ref 1 0, .ref 2 0, pI ({ m with version := a5z n m 3 } : Nd).round, pI ({ m with version := a5z n m 3 } : Nd).low]] 3 3 fun γ => ?_
 refine exR (u2u (id := 3) rfl rfl rfl (u2u (id := 4) rfl rfl rfl (y6y (id := 5) y5y s9s rfl (x2x fun K1 hK1 => ?_))))
 refine exR (x0x rfl (y0y ?_))
 refine z2z (ι := Nat) (fun k γ1 => [(5, pI (k : Int))]) (fun k γ1 => [(4, ((0 + 1), .box 65 [pI m.id, .pv (.bool m.up), pI m.inc, pI m.g, .ref 0 (γ 0), a2e true m.kept, a0t true m.outs, pI m.led, pI (a5z n m k), .ref 1 (γ 1), .ref 2 (γ 2), pI m.round, pI m.low]))]) (fun k => k ≤ 3) (fun k => 3 - k) (cK [2, 3, 4] rfl) (hK [0, 1, 2, 3, 5] rfl) 0 (by omega) [] cv (HE.box rfl (by rfl) HE.nil) rfl fun k γ1 hi => ?_
 refine x2x fun K2 hK2 => ?_
 refine exA 2 rfl rfl (y4y rfl ?_ ?_)<;>intro o<;>try simp at o
 ·obtain rfl : k = 3 := by omega
  refine z4z (hK1 _ _ (exR (x5x rfl y5y rfl rfl rfl (x3x rfl rfl y5y rfl rfl rfl rfl (x6x ?_)))))
  exact ⟨.inr rfl, [γ 0, γ 1, γ 2], rfl, rfl, HE.same (id := 0) rfl (y8y 1 rfl (y8y 2 rfl HE.nil))⟩
 refine x8x (hK2 _ _ (x2x fun K4 hK4 => ?_))
 refine y0y (exD (x1x 5 rfl rfl (z9z rfl rfl ?_ ?_)))<;>intro hg5<;>try simp at hg5
 ·have hs : (k : Int) = m.id ∨ a3r n (k : Int) = a3r m (k : Int) := .inl hg5
  refine x1x 8 rfl rfl ⟨by kernel_rfl, x7x rfl (fun hc7 => ?_) (fun hc7 => ?_)⟩
  ·simp at hc7
  try simp at hc7
  refine x8x (hK4 _ _ (exG (x4x rfl (p5p rfl rfl rfl (x0x rfl ?_)))))
  exact ⟨k + 1, ⟨by omega, by omega⟩, [], (Cov.cons' (t := 5) rfl (by rw [u4u (by omega) (by omega)]; rfl) Cov.nil), (y3y 2 rfl (y3y 3 rfl (y3y 4 rfl Cov.nil))), (HE.box rfl (by rw [d9m hid hs]) HE.nil), (y8y 0 rfl (y8y 1 rfl (y8y 2 rfl (y8y 3 rfl (y8y 5 rfl HE.nil))))), rfl⟩
 have hi0 : ¬ (k : Int) = m.id := hg5
 refine x1x 2 rfl rfl (z1z rfl rfl ?_)
 refine x9x rfl rfl rfl (a8g c n k (by omega) hn.2.2.2.1 (by have := d1j hn; omega) (by have := hn.1; omega)) ?_
 refine x1x 2 rfl rfl (z1z rfl rfl ?_)
 refine b7s rfl rfl rfl (d1l (n := ({ m with version := a5z n m k } : Nd)) rfl rfl rfl (.cl rfl .nil)) (a8g false ({ m with version := a5z n m k } : Nd) k (by omega) hm.2.2.2.1 (by have := d1j hm; show (a1u m).length ≤ 5000000; omega) (by have := hm.1; show m.lanes.length ≤ 1048576; omega)) (b0f _) ?_
 refine z1z rfl rfl (x9x rfl rfl rfl (c3r true true (a3r n (k : Int)) (a3r m (k : Int))) ?_)
 refine x1x 2 rfl rfl ⟨by kernel_rfl, y4y rfl ?_ ?_⟩<;>intro hc6<;>try simp at hc6
 ·have hs : (k : Int) = m.id ∨ a3r n (k : Int) = a3r m (k : Int) := .inr hc6
  refine x8x (hK4 _ _ (exG (x4x rfl (p5p rfl rfl rfl (x0x rfl ?_)))))
  exact ⟨k + 1, ⟨by omega, by omega⟩, [], (Cov.cons' (t := 5) rfl (by rw [u4u (by omega) (by omega)]; rfl) Cov.nil), (y3y 2 rfl (y3y 3 rfl (y3y 4 rfl Cov.nil))), (HE.box rfl (by rw [d9m hid hs]) HE.nil), (y8y 0 rfl (y8y 1 rfl (y8y 2 rfl (y8y 3 rfl (y8y 5 rfl HE.nil))))), rfl⟩
 have hd : ¬ a3r n (k : Int) = a3r m (k : Int) := hc6
 refine exG (x1x 2 rfl rfl (a0y (.int .i64 (n.version + 1)) rfl rfl rfl (a9c rfl rfl (by omega) (by omega)) ?_))
 refine y1y rfl y5y rfl rfl q1q rfl rfl (z0z rfl rfl q1q rfl rfl rfl rfl rfl (by simp only [a1h]; rfl) ?_)
 refine hK4 _ _ (exG (x4x rfl (p5p rfl rfl rfl (x0x rfl ?_))))
 exact ⟨k + 1, ⟨by omega, by omega⟩, [], (Cov.cons' (t := 5) rfl (by rw [u4u (by omega) (by omega)]; rfl) Cov.nil), (y3y 2 rfl (y3y 3 rfl (y3y 4 rfl Cov.nil))), (HE.box rfl (by (rw [e8c hid hi0 hd] <;> rfl)) HE.nil), (y8y 0 rfl (y8y 1 rfl (y8y 2 rfl (y8y 3 rfl (y8y 5 rfl HE.nil))))), rfl⟩
end
section
theorem c2h (apps : List Ap) (n : Nd) (q : Int) (hn : ndI n) (hA : a6w apps) : MethE Tryz.prog 321 0 [a6b true apps, .agg (w5w true n), .pv (.int .i64 q)] [] (ι := Nd × Bool) (fun S' => ndI S'.1) (fun S' => []) (fun S' => .tup [.agg (w5w true S'.1), .pv (.bool (S'.2))]) (fun S' => []) := by
 refine mE (ι := Nd × Bool) Tryz.f321 (fun S' => [.agg (w5w true S'.1), .pv (.bool (S'.2))]) 0 10 fun γ => ?_
 have fK := hn.1
 have fS := fK.1
 have fB := q5q fS
 have fb := b8c fS
 have hb : ∀ a ∈ apps, ∀ r ∈ a.rules, r.ops.length ≤ 1048576 := fun a ha r hr => by obtain ⟨i, hi⟩ := List.getElem?_of_mem hr; have := ((hA.2 a ha).2 i r hi).2.1.2.1; omega
 refine exR (u2u (id := 0) rfl rfl rfl (y6y (id := 1) y5y s9s rfl (x0x rfl (x2x fun K1 hK1 => ?_))))
 refine exR (x5x rfl y5y rfl rfl rfl (x9x rfl rfl rfl (q9q true n) (a1s rfl (x7x rfl ?_ ?_))))<;>intro hc2<;>try simp at hc2
 ·exact absurd fK (a0k (by simpa using hc2))
 refine x8x (hK1 _ _ (a0p fun B X0 w0 => ?_))
 refine txR 2 rfl rfl (x1x 2 rfl rfl ?_)
 refine txM [] [] (c3q n q (by omega)) rfl rfl rfl rfl fun j hj => ?_
 refine txR 1 rfl rfl (x0x rfl (v9v rfl (x2x fun K3 hK3 => ?_)))
 refine exD (x1x 4 rfl rfl (z9z rfl rfl ?_ ?_))<;>intro o<;>try simp at o
 ·refine x1x 13 rfl rfl ⟨by kernel_rfl, x7x rfl (fun hc14 => ?_) (fun hc14 => ?_)⟩
  rotate_left
  ·simp at hc14
  try simp at hc14
  refine exR (x5x rfl y5y rfl rfl rfl ?_)
  refine rlM [7, 8, 9] [_, _, _] (u0u true n fb) rfl rfl rfl ?_
  refine x3x rfl rfl y5y rfl rfl rfl rfl (x0x rfl ?_)
  (refine p8p (b := b8y true n.lanes) 1 4 rfl rfl rfl (.ref rfl (Le.ow_map _ (fun _ => rfl) (fun _ => rfl)) .nil) rfl rfl rfl rfl ?_; refine p8p (b := c2w true n.views) 1 9 rfl rfl rfl (.ref rfl (Le.ow_map _ (fun _ => rfl) (fun _ => rfl)) .nil) rfl rfl rfl rfl ?_; refine p8p (b := a6f true n.known) 1 10 rfl rfl rfl (.ref rfl (Le.ow_map _ (fun _ => rfl) (fun _ => rfl)) .nil) rfl rfl rfl rfl ?_)
  refine x6x ?_
  exact ⟨.inr rfl, (n, false), hn, [], rfl, rfl, hv⟩
 refine x4x rfl (z1z rfl rfl (x9x rfl rfl rfl (a8w true apps hb) (x1x 3 rfl rfl (z9z rfl rfl ?_ ?_))))<;>intro o<;>try simp at o
 ·refine x1x 8 rfl rfl ⟨by kernel_rfl, x7x rfl (fun hc13 => ?_) (fun hc13 => ?_)⟩
  rotate_left
  ·simp at hc13
  try simp at hc13
  refine exR (x5x rfl y5y rfl rfl rfl ?_)
  refine rlM [7, 8, 9] [_, _, _] (u0u true n fb) rfl rfl rfl ?_
  refine x3x rfl rfl y5y rfl rfl rfl rfl (x0x rfl ?_)
  (refine p8p (b := b8y true n.lanes) 1 4 rfl rfl rfl (.ref rfl (Le.ow_map _ (fun _ => rfl) (fun _ => rfl)) .nil) rfl rfl rfl rfl ?_; refine p8p (b := c2w true n.views) 1 9 rfl rfl rfl (.ref rfl (Le.ow_map _ (fun _ => rfl) (fun _ => rfl)) .nil) rfl rfl rfl rfl ?_; refine p8p (b := a6f true n.known) 1 10 rfl rfl rfl (.ref rfl (Le.ow_map _ (fun _ => rfl) (fun _ => rfl)) .nil) rfl rfl rfl rfl ?_)
  refine x6x ?_
  exact ⟨.inr rfl, (n, false), hn, [], rfl, rfl, hv⟩
 refine x1x 4 rfl rfl (z9z rfl rfl ?_ ?_)<;>intro o<;>try simp at o
 ·refine x1x 4 rfl rfl ⟨by kernel_rfl, x7x rfl (fun hc12 => ?_) (fun hc12 => ?_)⟩
  rotate_left
  ·simp at hc12
  try simp at hc12
  refine exR (x5x rfl y5y rfl rfl rfl ?_)
  refine rlM [7, 8, 9] [_, _, _] (u0u true n fb) rfl rfl rfl ?_
  refine x3x rfl rfl y5y rfl rfl rfl rfl (x0x rfl ?_)
  (refine p8p (b := b8y true n.lanes) 1 4 rfl rfl rfl (.ref rfl (Le.ow_map _ (fun _ => rfl) (fun _ => rfl)) .nil) rfl rfl rfl rfl ?_; refine p8p (b := c2w true n.views) 1 9 rfl rfl rfl (.ref rfl (Le.ow_map _ (fun _ => rfl) (fun _ => rfl)) .nil) rfl rfl rfl rfl ?_; refine p8p (b := a6f true n.known) 1 10 rfl rfl rfl (.ref rfl (Le.ow_map _ (fun _ => rfl) (fun _ => rfl)) .nil) rfl rfl rfl rfl ?_)
  refine x6x ?_
  exact ⟨.inr rfl, (n, false), hn, [], rfl, rfl, hv⟩
 refine x1x 2 rfl rfl (z1z rfl rfl (x9x rfl rfl rfl (w0w ..) (x1x 2 rfl rfl ⟨by kernel_rfl, x7x rfl ?_ ?_⟩)))<;>intro o<;>try simp at o
 ·refine exR (x5x rfl y5y rfl rfl rfl ?_)
  refine rlM [7, 8, 9] [_, _, _] (u0u true n fb) rfl rfl rfl ?_
  refine x3x rfl rfl y5y rfl rfl rfl rfl (x0x rfl ?_)
  (refine p8p (b := b8y true n.lanes) 1 4 rfl rfl rfl (.ref rfl (Le.ow_map _ (fun _ => rfl) (fun _ => rfl)) .nil) rfl rfl rfl rfl ?_; refine p8p (b := c2w true n.views) 1 9 rfl rfl rfl (.ref rfl (Le.ow_map _ (fun _ => rfl) (fun _ => rfl)) .nil) rfl rfl rfl rfl ?_; refine p8p (b := a6f true n.known) 1 10 rfl rfl rfl (.ref rfl (Le.ow_map _ (fun _ => rfl) (fun _ => rfl)) .nil) rfl rfl rfl rfl ?_)
  refine x6x ?_
  exact ⟨.inr rfl, (n, false), hn, [], rfl, rfl, hv⟩
 have hv9 : n.version < 9999 := by omega
 obtain ⟨i, l, hji, hl, hlp⟩ := hj.resolve_left (by omega)
 subst hji
 have hln := b6t fK hl
 have hp3 := (c9r hln.2.1).1
 obtain ⟨qn, rfl⟩ : ∃ qn : Nat, q = (qn : Int) := ⟨q.toNat, by omega⟩
 have hA4 := hA.1
 obtain ⟨a, ha⟩ := gE apps qn
 have hap := hA.2 a (List.mem_of_getElem? ha)
 have hv0 := fS.1.2.2.2.2.1.1
 refine x8x (hK3 _ _ (d1n 12 (b4d r6r 0 12 rfl rfl ?_)))
 refine x1x 2 rfl rfl (y7y rfl rfl b1x rfl a1y rfl ha ?_)
 refine w4w (out := .agg (b9j true a)) rfl a1y rfl ?_
 refine x1x 3 rfl rfl (y7y rfl rfl r5r rfl v7v rfl hl ?_)
 refine w4w (out := .agg (a0j true l)) rfl v7v rfl ?_
 refine x1x 2 rfl rfl (x9x rfl rfl rfl (a3k true n (qn : Int) (a7v fS) (by omega) fS.2.2.2.2.2.1) ?_)
 refine b4d r6r 16 1 rfl rfl ?_
 refine y6y (id := 2) v7v a9t rfl (b5k c3d (by rfl) [] [] (c2f a l (a1x n (qn : Int)) hap hln.2.1) rfl rfl rfl rfl (by decide) rfl rfl (by repeat (exact InH.nil)) (fun _ => (by (simp only [pI, a3p, a3s, b9s, gl, nx, a7r, Nat.beq]; rfl))) (fun _ => (by (simp only [pI, a3p, a3s, b9s, gl, nx, a7r, Nat.beq]; rfl))) (l, false) (by intro h; simp at h) fun r hr => ?_)
 refine b4e r6r 13 3 rfl rfl ?_
 refine x1x 3 rfl rfl (b4e r6r 17 2 rfl rfl ?_)
 refine x3x rfl rfl v7v rfl rfl rfl rfl (x0x rfl (c1w (by kernel_rfl) ?_))
 refine x2x fun K8 hK8 => ?_
 refine exA 2 rfl rfl (x7x rfl ?_ ?_)<;>intro hc9<;>try simp at hc9
 ·refine exR (x5x rfl y5y rfl rfl rfl ?_)
  refine rlM [7, 8, 9] [_, _, _] (u0u true n fb) rfl rfl rfl ?_
  refine x3x rfl rfl y5y rfl rfl rfl rfl (x0x rfl ?_)
  (refine p8p (b := b8y true n.lanes) 1 4 rfl rfl rfl (.ref rfl (Le.ow_map _ (fun _ => rfl) (fun _ => rfl)) .nil) rfl rfl rfl rfl ?_; refine p8p (b := c2w true n.views) 1 9 rfl rfl rfl (.ref rfl (Le.ow_map _ (fun _ => rfl) (fun _ => rfl)) .nil) rfl rfl rfl rfl ?_; refine p8p (b := a6f true n.known) 1 10 rfl rfl rfl (.ref rfl (Le.ow_map _ (fun _ => rfl) (fun _ => rfl)) .nil) rfl rfl rfl rfl ?_)
  refine x6x ?_
  exact ⟨.inr rfl, (n, false), hn, [], rfl, rfl, hv⟩
 obtain ⟨p, hp1, hroom, hpb⟩ := hr hc9
 rw [hp1]
 have hwM := e4q (e3p fS) hl hroom hpb
 have hoM := e1g hn.2 hl hpb
 have hwA : wk (nl (nl n (n.lanes.set i (a3b l p))) (a0f (nl n (n.lanes.set i (a3b l p))) (nl n (n.lanes.set i (a3b l p))).lanes)) := c6o _ (Nat.le_refl _) hwM
 refine x8x (hK8 _ _ (exR (x5x rfl y5y rfl rfl rfl ?_)))
 refine rlM [4, 5, 6] [_, _, _] (u0u true n fb) rfl rfl rfl ?_
 refine y6y (id := 3) y5y s9s rfl (x3x rfl rfl y5y rfl rfl rfl rfl (exA 4 rfl rfl ?_))
 refine v0v (j := i) rfl rfl r5r rfl v7v rfl rfl (v1v hl) ?_
 refine p9p (el' := a3b l p) rfl rfl v7v rfl rfl rfl hl rfl (a0b rfl) rfl rfl ?_
 refine exD (x1x 2 rfl rfl ?_)
 refine rlM [4, 5, 6] [_, _, _] (b3c (nl n (n.lanes.set i (a3b l p))) hwM) rfl rfl rfl ?_
 refine rlM [4, 5, 6] [_, _, _] (b1n true n (nl (nl n (n.lanes.set i (a3b l p))) (a0f (nl n (n.lanes.set i (a3b l p))) (nl n (n.lanes.set i (a3b l p))).lanes)) (e3p fS) hwA rfl ⟨hv0, by omega⟩) rfl rfl rfl ?_
 refine x3x rfl rfl y5y rfl rfl rfl rfl ⟨by kernel_rfl, x2x fun K10 hK10 => ?_⟩
 refine p8p (b := b8y true (a9f n (nl n (n.lanes.set i (a3b l p)))).lanes) 3 4 rfl rfl rfl (.ref rfl (Le.ow_map _ (fun _ => rfl) (fun _ => rfl)) .nil) rfl rfl rfl rfl ?_
 refine p8p (b := c2w true (a9f n (nl n (n.lanes.set i (a3b l p)))).views) 3 9 rfl rfl rfl (.ref rfl (Le.ow_map _ (fun _ => rfl) (fun _ => rfl)) .nil) rfl rfl rfl rfl ?_
 refine p8p (b := a6f true (a9f n (nl n (n.lanes.set i (a3b l p)))).known) 3 10 rfl rfl rfl (.ref rfl (Le.ow_map _ (fun _ => rfl) (fun _ => rfl)) .nil) rfl rfl rfl rfl ?_
 refine exR (x5x rfl y5y rfl rfl rfl (x9x rfl rfl rfl (q9q true (a9f n (nl n (n.lanes.set i (a3b l p))))) ?_))
 refine a1s rfl (x7x rfl ?_ ?_)<;>intro hc11<;>try simp at hc11
 ·refine exR (x5x rfl y5y rfl rfl rfl ?_)
  refine rlM [7, 8, 9] [_, _, _] (u0u true n fb) rfl rfl rfl ?_
  refine x3x rfl rfl y5y rfl rfl rfl rfl (x0x rfl ?_)
  (refine p8p (b := b8y true n.lanes) 1 4 rfl rfl rfl (.ref rfl (Le.ow_map _ (fun _ => rfl) (fun _ => rfl)) .nil) rfl rfl rfl rfl ?_; refine p8p (b := c2w true n.views) 1 9 rfl rfl rfl (.ref rfl (Le.ow_map _ (fun _ => rfl) (fun _ => rfl)) .nil) rfl rfl rfl rfl ?_; refine p8p (b := a6f true n.known) 1 10 rfl rfl rfl (.ref rfl (Le.ow_map _ (fun _ => rfl) (fun _ => rfl)) .nil) rfl rfl rfl rfl ?_)
  refine x6x ?_
  exact ⟨.inr rfl, (n, false), hn, [], rfl, rfl, hv⟩
 have fK2 : z7z (a9f n (nl n (n.lanes.set i (a3b l p)))) := a1o.1 (by simpa using hc11)
 have fb2 := b8c fK2.1
 refine x8x (hK10 _ _ (exR (x5x rfl y5y rfl rfl rfl ?_)))
 refine rlM [7, 8, 9] [_, _, _] (u0u true (a9f n (nl n (n.lanes.set i (a3b l p)))) fb2) rfl rfl rfl ?_
 refine x3x rfl rfl y5y rfl rfl rfl rfl (x0x rfl ?_)
 (refine p8p (b := b8y true (a9f n (nl n (n.lanes.set i (a3b l p)))).lanes) 1 4 rfl rfl rfl (.ref rfl (Le.ow_map _ (fun _ => rfl) (fun _ => rfl)) .nil) rfl rfl rfl rfl ?_; refine p8p (b := c2w true (a9f n (nl n (n.lanes.set i (a3b l p)))).views) 1 9 rfl rfl rfl (.ref rfl (Le.ow_map _ (fun _ => rfl) (fun _ => rfl)) .nil) rfl rfl rfl rfl ?_; refine p8p (b := a6f true (a9f n (nl n (n.lanes.set i (a3b l p)))).known) 1 10 rfl rfl rfl (.ref rfl (Le.ow_map _ (fun _ => rfl) (fun _ => rfl)) .nil) rfl rfl rfl rfl ?_)
 refine x6x ?_
 exact ⟨.inr rfl, ((a9f n (nl n (n.lanes.set i (a3b l p)))), true), ⟨fK2, c4x hoM⟩, [], rfl, rfl, hv⟩
end
section
theorem b4m (c : Bool) (l : List Int) : a1r Tryz.prog 259 [a6f c l] (.pv (.bool (decide (c3n l)))) := by
 refine pX Tryz.f259 [.pv (.bool (decide (c3n l)))] 0 ?_
 refine r1r 0 rfl fun hlen => ?_
 refine exR (x0x rfl (x2x fun K1 hK1 => ?_))
 refine exR (x4x rfl (z3z rfl q2q rfl (x1x 2 rfl rfl (z9z rfl rfl ?_ ?_))))<;>intro o<;>try simp at o
 ·refine x1x 3 rfl rfl (x7x rfl (fun hc9 => ?_) (fun hc9 => ?_))
  ·simp at hc9
  try simp at hc9
  have hL : l.length = 0 ∨ l.length = 3 := by (simp_all; done)
  refine x8x (hK1 _ _ (x2x fun K10 hK10 => ?_))
  refine exR (x0x rfl (y0y ?_))
  refine z2z (ι := Nat) (fun i γ2 => [(3, pI (i : Int))]) (fun i γ2 => []) (fun i => i ≤ l.length ∧ c7i l (fun _ v => 0 ≤ v ∧ v ≤ 9999) i) (fun i => l.length - i) (y3y 0 rfl Cov.nil) HE.nil 0 ⟨by omega, a2i⟩ [] cv hv rfl fun i γ2 hi => ?_
  obtain ⟨h1, h2⟩ := hi
  refine x2x fun K11 hK11 => ?_
  refine exA 2 rfl rfl (z3z rfl q2q rfl (v6v rfl rfl rfl (y4y rfl ?_ ?_)))<;>intro o<;>try simp at o
  ·have hall := a3q h2 (by omega)
   refine z4z (hK10 _ _ (exR (x0x rfl (x6x ⟨.inr rfl, ?_⟩))))
   refine y9y rfl ?_ rfl
   exact kT ⟨hL, fun v hv => by obtain ⟨i, hi⟩ := List.getElem?_of_mem hv; exact hall i v hi⟩
  obtain ⟨v, hv⟩ := gE l i
  refine x8x (hK11 _ _ (x2x fun K13 hK13 => ?_))
  refine y0y (exD (x1x 2 rfl rfl (y7y rfl rfl q2q rfl q1q rfl hv (w4w rfl q1q rfl (x9x rfl rfl rfl (w0w ..) (x9x rfl rfl rfl (u7u ..) (a1s rfl ⟨by kernel_rfl, y4y rfl ?_ ?_⟩)))))))<;>intro o<;>try simp at o
  ·have hb : 0 ≤ v ∧ v ≤ 9999 := by omega
   refine x8x ?_
   refine hK13 _ _ ?_
   refine exG ?_
   refine x4x rfl ?_
   refine z5z (b := 1) rfl rfl (by omega) ?_
   refine x0x rfl ?_
   exact ⟨i + 1, ⟨⟨by omega, a0i h2 hv hb⟩, by omega⟩, [], (y3y 3 rfl Cov.nil), (y3y 0 rfl Cov.nil), HE.nil, HE.nil, rfl⟩
  have hX2 : ¬ (0 ≤ v ∧ v ≤ 9999) := by omega
  refine exR (x0x rfl (x6x ⟨.inr rfl, ?_⟩))
  refine y9y rfl ?_ rfl
  exact kF (fun h => hX2 (h.2 v (List.mem_of_getElem? hv)))
 refine x4x rfl (z1z rfl rfl (z3z rfl q2q rfl (x1x 2 rfl rfl (x7x rfl ?_ ?_))))<;>intro o<;>try simp at o
 ·have hX : ¬ (l.length = 0 ∨ l.length = 3) := by (rintro (h | h); exact absurd (List.length_eq_zero_iff.1 h) ‹_›; omega)
  refine exR (x0x rfl (x6x ⟨.inr rfl, ?_⟩))
  refine y9y rfl ?_ rfl
  exact kF (fun h => hX h.1)
 have hL : l.length = 0 ∨ l.length = 3 := by omega
 refine x8x (hK1 _ _ (x2x fun K4 hK4 => ?_))
 refine exR (x0x rfl (y0y ?_))
 refine z2z (ι := Nat) (fun i γ1 => [(3, pI (i : Int))]) (fun i γ1 => []) (fun i => i ≤ l.length ∧ c7i l (fun _ v => 0 ≤ v ∧ v ≤ 9999) i) (fun i => l.length - i) (y3y 0 rfl Cov.nil) HE.nil 0 ⟨by omega, a2i⟩ [] cv hv rfl fun i γ1 hi => ?_
 obtain ⟨h1, h2⟩ := hi
 refine x2x fun K5 hK5 => ?_
 refine exA 2 rfl rfl (z3z rfl q2q rfl (v6v rfl rfl rfl (y4y rfl ?_ ?_)))<;>intro o<;>try simp at o
 ·have hall := a3q h2 (by omega)
  refine z4z (hK4 _ _ (exR (x0x rfl (x6x ⟨.inr rfl, ?_⟩))))
  refine y9y rfl ?_ rfl
  exact kT ⟨hL, fun v hv => by obtain ⟨i, hi⟩ := List.getElem?_of_mem hv; exact hall i v hi⟩
 obtain ⟨v, hv⟩ := gE l i
 refine x8x (hK5 _ _ (x2x fun K7 hK7 => ?_))
 refine y0y (exD (x1x 2 rfl rfl (y7y rfl rfl q2q rfl q1q rfl hv (w4w rfl q1q rfl (x9x rfl rfl rfl (w0w ..) (x9x rfl rfl rfl (u7u ..) (a1s rfl ⟨by kernel_rfl, y4y rfl ?_ ?_⟩)))))))<;>intro o<;>try simp at o
 ·have hb : 0 ≤ v ∧ v ≤ 9999 := by omega
  refine x8x ?_
  refine hK7 _ _ ?_
  refine exG ?_
  refine x4x rfl ?_
  refine z5z (b := 1) rfl rfl (by omega) ?_
  refine x0x rfl ?_
  exact ⟨i + 1, ⟨⟨by omega, a0i h2 hv hb⟩, by omega⟩, [], (y3y 3 rfl Cov.nil), (y3y 0 rfl Cov.nil), HE.nil, HE.nil, rfl⟩
 have hX2 : ¬ (0 ≤ v ∧ v ≤ 9999) := by omega
 refine exR (x0x rfl (x6x ⟨.inr rfl, ?_⟩))
 refine y9y rfl ?_ rfl
 exact kF (fun h => hX2 (h.2 v (List.mem_of_getElem? hv)))
theorem b1d (c : Bool) (w : Wo) : a1r Tryz.prog 182 [.agg (p4p c w)] (.pv (.bool (decide (a4l w)))) := by
 refine pX Tryz.f182 [.pv (.bool (decide (a4l w)))] 1 ?_
 refine exR (u2u (id := 0) rfl rfl rfl (x0x rfl (exD (x1x 2 rfl rfl (x9x rfl rfl rfl (u7u ..) (x4x rfl (z9z rfl rfl ?_ ?_)))))))<;>intro o<;>try simp at o
 ·have hX : ¬ a5u w := by unfold a5u; omega
  refine x1x 53 rfl rfl ⟨by kernel_rfl, x6x ⟨.inr rfl, ?_⟩⟩
  refine y9y rfl ?_ rfl
  exact kF (fun h => hX h.1)
 refine x1x 2 rfl rfl (z1z rfl rfl (x9x rfl rfl rfl (u7u ..) (x1x 2 rfl rfl (z9z rfl rfl ?_ ?_))))<;>intro o<;>try simp at o
 ·have hX : ¬ a5u w := by unfold a5u; omega
  refine x1x 48 rfl rfl ⟨by kernel_rfl, x6x ⟨.inr rfl, ?_⟩⟩
  refine y9y rfl ?_ rfl
  exact kF (fun h => hX h.1)
 refine x1x 2 rfl rfl (z1z rfl rfl (x9x rfl rfl rfl (u7u ..) (x1x 2 rfl rfl (z9z rfl rfl ?_ ?_))))<;>intro o<;>try simp at o
 ·have hX : ¬ a5u w := by unfold a5u; omega
  refine x1x 43 rfl rfl ⟨by kernel_rfl, x6x ⟨.inr rfl, ?_⟩⟩
  refine y9y rfl ?_ rfl
  exact kF (fun h => hX h.1)
 refine x1x 2 rfl rfl (z1z rfl rfl (x9x rfl rfl rfl (w0w ..) (z1z rfl rfl (x9x rfl rfl rfl (u7u ..) (x1x 2 rfl rfl (z9z rfl rfl ?_ ?_))))))<;>intro o<;>try simp at o
 ·have hX : ¬ a5u w := by unfold a5u; omega
  refine x1x 37 rfl rfl ⟨by kernel_rfl, x6x ⟨.inr rfl, ?_⟩⟩
  refine y9y rfl ?_ rfl
  exact kF (fun h => hX h.1)
 refine x1x 2 rfl rfl (z1z rfl rfl (x9x rfl rfl rfl (w0w ..) (z1z rfl rfl (x9x rfl rfl rfl (u7u ..) (x1x 2 rfl rfl (z9z rfl rfl ?_ ?_))))))<;>intro o<;>try simp at o
 ·have hX : ¬ a5u w := by unfold a5u; omega
  refine x1x 31 rfl rfl ⟨by kernel_rfl, x6x ⟨.inr rfl, ?_⟩⟩
  refine y9y rfl ?_ rfl
  exact kF (fun h => hX h.1)
 refine x1x 2 rfl rfl (z1z rfl rfl (x9x rfl rfl rfl (w0w ..) (z1z rfl rfl (x9x rfl rfl rfl (u7u ..) (x1x 2 rfl rfl (z9z rfl rfl ?_ ?_))))))<;>intro o<;>try simp at o
 ·have hX : ¬ a5u w := by unfold a5u; omega
  refine x1x 25 rfl rfl ⟨by kernel_rfl, x6x ⟨.inr rfl, ?_⟩⟩
  refine y9y rfl ?_ rfl
  exact kF (fun h => hX h.1)
 refine x1x 2 rfl rfl (z1z rfl rfl (x9x rfl rfl rfl (u7u ..) (x1x 2 rfl rfl (z9z rfl rfl ?_ ?_))))<;>intro o<;>try simp at o
 ·have hX : ¬ a5u w := by unfold a5u; omega
  refine x1x 20 rfl rfl ⟨by kernel_rfl, x6x ⟨.inr rfl, ?_⟩⟩
  refine y9y rfl ?_ rfl
  exact kF (fun h => hX h.1)
 have hN : a5u w := by unfold a5u; omega
 refine x1x 2 rfl rfl (z1z rfl rfl (x9x rfl rfl rfl (b4m ..) (x1x 2 rfl rfl (z9z rfl rfl ?_ ?_))))<;>intro hg8<;>try simp at hg8
 ·have hX1 : ¬ c3n w.incs := hg8
  refine x1x 15 rfl rfl ⟨by kernel_rfl, x6x ⟨.inr rfl, ?_⟩⟩
  refine y9y rfl ?_ rfl
  exact kF (fun h => hX1 h.2.1)
 have hI : c3n w.incs := hg8
 refine x1x 2 rfl rfl (z1z rfl rfl (x9x rfl rfl rfl (b4m ..) (x1x 2 rfl rfl (z9z rfl rfl ?_ ?_))))<;>intro hg9<;>try simp at hg9
 ·have hX2 : ¬ c3n w.versions := hg9
  refine x1x 10 rfl rfl ⟨by kernel_rfl, x6x ⟨.inr rfl, ?_⟩⟩
  refine y9y rfl ?_ rfl
  exact kF (fun h => hX2 h.2.2.1)
 have hV : c3n w.versions := hg9
 refine x1x 2 rfl rfl (z1z rfl rfl (x9x rfl rfl rfl (a4i ..) (z1z rfl rfl (x9x rfl rfl rfl (a4c ..) (x1x 2 rfl rfl (z9z rfl rfl ?_ ?_))))))<;>intro hg10<;>try simp at hg10
 ·have hX3 : ¬ a7k okE a2z w.events 100 = true := by simpa using hg10
  refine x1x 4 rfl rfl ⟨by kernel_rfl, x6x ⟨.inr rfl, ?_⟩⟩
  refine y9y rfl ?_ rfl
  exact kF (fun h => hX3 h.2.2.2.1)
 have hE : a7k okE a2z w.events 100 = true := hg10
 refine x1x 2 rfl rfl (z1z rfl rfl (x9x rfl rfl rfl (a7o ..) (x1x 2 rfl rfl ⟨by kernel_rfl, x6x ⟨.inr rfl, ?_⟩⟩)))
 refine y9y rfl ?_ rfl
 exact congrArg (fun b : Bool => [AV.pv (.bool b)]) (Bool.eq_iff_iff.2 ⟨fun h => decide_eq_true ⟨hN, hI, hV, hE, h⟩, fun h => (of_decide_eq_true h).2.2.2.2⟩)
theorem a4w (c : Bool) (w : Wo) (hb : wob w) : a1r Tryz.prog 331 [.agg (p4p c w)] (.agg (p4p true w)) := by
 refine pX Tryz.f331 [.agg (p4p true w)] 10 ?_
 obtain ⟨b1, b2, b3, b4⟩ := hb
 refine exR (u2u (id := 0) rfl rfl rfl (y6y (id := 1) v3v a9u rfl (exR (z8z (id := 2) q2q rfl q1q rfl (x1x 2 rfl rfl ?_)))))
 refine a2j r6r (zs := (w.incs).map a8u) rfl rfl q2q rfl q1q rfl rfl rfl (w3w (fun _ => rfl) _) rfl (by (simp only [a1c, a0m, a0u, a0v, a1z, a4b, T3]; omega)) (Le.ow_map _ (fun _ => rfl) (fun _ => rfl)) ?_
 refine y1y rfl v3v rfl rfl q2q rfl rfl (z0z rfl rfl q2q rfl rfl rfl rfl rfl (by simp only [a1h]; rfl) ?_)
 refine exR (z8z (id := 4) q2q rfl q1q rfl (x1x 2 rfl rfl ?_))
 refine a2j r6r (zs := (w.versions).map a8u) rfl rfl q2q rfl q1q rfl rfl rfl (w3w (fun _ => rfl) _) rfl (by (simp only [a1c, a0m, a0u, a0v, a1z, a4b, T3]; omega)) (Le.ow_map _ (fun _ => rfl) (fun _ => rfl)) ?_
 refine y1y rfl v3v rfl rfl q2q rfl rfl (z0z rfl rfl q2q rfl rfl rfl rfl rfl (by simp only [a1h]; rfl) ?_)
 refine exR (z8z (id := 6) u8u rfl z6z rfl (x1x 2 rfl rfl ?_))
 refine a2j r6r (zs := (w.events).map v5v) rfl rfl u8u rfl z6z rfl rfl rfl (w3w (fun _ => rfl) _) rfl (by (simp only [a1c, a0m, a0u, a0v, a1z, a4b, T56]; omega)) (Le.ow_map _ (fun _ => rfl) (fun _ => rfl)) ?_
 refine y1y rfl v3v rfl rfl u8u rfl rfl (z0z rfl rfl u8u rfl rfl rfl rfl rfl (by simp only [a1h]; rfl) ?_)
 refine exR (z8z (id := 8) r3r rfl w7w rfl (x1x 2 rfl rfl ?_))
 refine a2j r6r (zs := (w.outs).map a0w) rfl rfl r3r rfl w7w rfl rfl rfl (w3w (fun _ => rfl) _) rfl (by (simp only [a1c, a0m, a0u, a0v, a1z, a4b, T141]; omega)) (Le.ow_map _ (fun _ => rfl) (fun _ => rfl)) ?_
 refine y1y rfl v3v rfl rfl r3r rfl rfl (z0z rfl rfl r3r rfl rfl rfl rfl rfl (by simp only [a1h]; rfl) ?_)
 refine exR (x5x rfl v3v rfl rfl rfl (x3x rfl rfl v3v rfl rfl rfl rfl (x6x ⟨.inr rfl, ?_⟩)))
 exact a9d rfl rfl rfl rfl
theorem a9k (c : Bool) (l : List Wo) (k : Int) : a1r Tryz.prog 333 [q3q c l, .pv (.int .i64 k)] (.pv (.bool (kb (b1t l k ∧ (k = 3 → ∀ w ∈ l, a8m w))))) := by
 refine pX Tryz.f333 [.pv (.bool (kb (b1t l k ∧ (k = 3 → ∀ w ∈ l, a8m w))))] 0 ?_
 refine r1r 0 rfl fun hlen => ?_
 refine exR (x0x rfl (x2x fun K1 hK1 => ?_))
 refine exR (x0x rfl (y0y ?_))
 refine z2z (ι := Nat) (fun i γ1 => [(5, pI (i : Int))]) (fun i γ1 => []) (fun i => i ≤ l.length ∧ c7i l (fun j w => a4l w ∧ w.kind = k ∧ (∀ p, 0 < j → l[j - 1]? = some p → p.from' < w.from') ∧ (k = 3 → a8m w)) i) (fun i => l.length - i) (cK [0, 1] rfl) HE.nil 0 ⟨by omega, a2i⟩ [] cv hv rfl fun i γ1 hi => ?_
 obtain ⟨h1, h2⟩ := hi
 refine x2x fun K2 hK2 => ?_
 refine exA 2 rfl rfl (z3z rfl v4v rfl (v6v rfl rfl rfl (y4y rfl ?_ ?_)))<;>intro o<;>try simp at o
 ·have hall := a3q h2 (by omega)
  refine z4z (hK1 _ _ (exR (x0x rfl (x6x ⟨.inr rfl, ?_⟩))))
  refine y9y rfl ?_ rfl
  exact congrArg (fun b : Bool => [AV.pv (.bool b)]) (e1v ⟨fun j w hw => ⟨(hall j w hw).1, (hall j w hw).2.1, (hall j w hw).2.2.1⟩, fun e w hw => by obtain ⟨j, hj⟩ := List.getElem?_of_mem hw; exact (hall j w hj).2.2.2 e⟩)
 obtain ⟨w, hw⟩ := gE l i
 refine x8x (hK2 _ _ (x2x fun K4 hK4 => ?_))
 refine y0y (x2x fun K5 hK5 => ?_)
 refine exD (x1x 2 rfl rfl (y7y rfl rfl v4v rfl v3v rfl hw ?_))
 refine w4w (out := .agg (p4p c w)) rfl v3v rfl ?_
 refine x9x rfl rfl rfl (b1d ..) (x1x 2 rfl rfl (z9z rfl rfl ?_ ?_))<;>intro hg6<;>try simp at hg6
 ·have hX : ¬ a4l w := hg6
  refine x1x 25 rfl rfl ⟨by kernel_rfl, x7x rfl (fun hc22 => ?_) (fun hc22 => ?_)⟩
  rotate_left
  ·simp at hc22
  try simp at hc22
  try have hXo : ¬ p.from' < w.from' := by omega
  refine exR (x0x rfl (x6x ⟨.inr rfl, ?_⟩))
  refine y9y rfl ?_ rfl
  exact congrArg (fun b : Bool => [AV.pv (.bool b)]) (a5l (fun h => hX (h.1 i w hw).1))
 have hW : a4l w := hg6
 refine x1x 2 rfl rfl (z1z rfl rfl (y7y rfl rfl v4v rfl v3v rfl hw (x1x 6 rfl rfl (z9z rfl rfl ?_ ?_))))<;>intro hg7<;>try simp at hg7
 ·try have hXk : ¬ w.kind = k := hg7
  refine x1x 16 rfl rfl ⟨by kernel_rfl, x7x rfl (fun hc21 => ?_) (fun hc21 => ?_)⟩
  rotate_left
  ·simp at hc21
  try simp at hc21
  try have hXo : ¬ p.from' < w.from' := by omega
  refine exR (x0x rfl (x6x ⟨.inr rfl, ?_⟩))
  refine y9y rfl ?_ rfl
  exact congrArg (fun b : Bool => [AV.pv (.bool b)]) (a5l (fun h => hXk (h.1 i w hw).2.1))
 have hk : w.kind = k := hg7
 refine x1x 3 rfl rfl (z9z rfl rfl ?_ ?_)<;>intro o<;>try simp at o
 ·have hi0 : i = 0 := by omega
  have hO : ∀ p, 0 < i → l[i - 1]? = some p → p.from' < w.from' := fun p h => by omega
  refine x1x 13 rfl rfl ⟨by kernel_rfl, x7x rfl (fun hc15 => ?_) (fun hc15 => ?_)⟩
  ·simp at hc15
  try simp at hc15
  try have hO : ∀ p, 0 < i → l[i - 1]? = some p → p.from' < w.from' := fun p2 _ h => by rw [hp] at h; cases h; omega
  refine x8x (hK5 _ _ (exA 3 rfl rfl (z9z rfl rfl ?_ ?_)))<;>intro o<;>try simp at o
  ·refine x1x 16 rfl rfl (x7x rfl (fun hc20 => ?_) (fun hc20 => ?_))
   ·simp at hc20
   try simp at hc20
   have hF : k = 3 → a8m w := by intro _; exact ⟨by omega, by omega⟩
   refine x8x (hK4 _ _ (exG (x4x rfl (z5z (b := 1) rfl rfl (by omega) (x0x rfl ?_)))))
   exact ⟨i + 1, ⟨⟨by omega, a0i h2 hw ⟨hW, hk, hO, hF⟩⟩, by omega⟩, [], cv, cv, hv, hv, rfl⟩
  refine x1x 2 rfl rfl (z1z rfl rfl (y7y rfl rfl v4v rfl v3v rfl hw (x1x 2 rfl rfl (z1z rfl rfl (z3z rfl q2q rfl (x1x 2 rfl rfl (z9z rfl rfl ?_ ?_)))))))<;>intro o<;>try simp at o
  ·refine x1x 8 rfl rfl (x7x rfl (fun hc19 => ?_) (fun hc19 => ?_))
   rotate_left
   ·simp at hc19
   try simp at hc19
   have hX5 : ¬ (k = 3 → a8m w) := fun h => by have := h (by omega); unfold a8m at this; omega
   refine exR (x0x rfl (x6x ⟨.inr rfl, ?_⟩))
   refine y9y rfl ?_ rfl
   exact congrArg (fun b : Bool => [AV.pv (.bool b)]) (a5l (fun h => hX5 (fun e => h.2 e w (List.mem_of_getElem? hw))))
  refine x1x 2 rfl rfl (z1z rfl rfl (y7y rfl rfl v4v rfl v3v rfl hw (x1x 2 rfl rfl (z1z rfl rfl (z3z rfl q2q rfl (x1x 3 rfl rfl (y4y rfl ?_ ?_)))))))<;>intro o<;>try simp at o
  ·have hF : k = 3 → a8m w := by intro _; exact ⟨by omega, by omega⟩
   refine x8x (hK4 _ _ (exG (x4x rfl (z5z (b := 1) rfl rfl (by omega) (x0x rfl ?_)))))
   exact ⟨i + 1, ⟨⟨by omega, a0i h2 hw ⟨hW, hk, hO, hF⟩⟩, by omega⟩, [], cv, cv, hv, hv, rfl⟩
  have hX5 : ¬ (k = 3 → a8m w) := fun h => by have := h (by omega); unfold a8m at this; omega
  refine exR (x0x rfl (x6x ⟨.inr rfl, ?_⟩))
  refine y9y rfl ?_ rfl
  exact congrArg (fun b : Bool => [AV.pv (.bool b)]) (a5l (fun h => hX5 (fun e => h.2 e w (List.mem_of_getElem? hw))))
 obtain ⟨p, hp⟩ := gE l (i - 1)
 refine x1x 2 rfl rfl (z1z rfl rfl (a0h (b := 1) rfl rfl (by omega) (by omega) (z1z rfl rfl (y7y rfl rfl v4v rfl v3v rfl hp (x1x 4 rfl rfl (z1z rfl rfl (y7y rfl rfl v4v rfl v3v rfl hw (x1x 5 rfl rfl ⟨by kernel_rfl, x7x rfl ?_ ?_⟩))))))))<;>intro o<;>try simp at o
 ·try have hXo : ¬ p.from' < w.from' := by omega
  refine exR (x0x rfl (x6x ⟨.inr rfl, ?_⟩))
  refine y9y rfl ?_ rfl
  exact congrArg (fun b : Bool => [AV.pv (.bool b)]) (a5l (fun h => hXo ((h.1 i w hw).2.2 p (by omega) hp)))
 try have hO : ∀ p, 0 < i → l[i - 1]? = some p → p.from' < w.from' := fun p2 _ h => by rw [hp] at h; cases h; omega
 refine x8x (hK5 _ _ (exA 3 rfl rfl (z9z rfl rfl ?_ ?_)))<;>intro o<;>try simp at o
 ·refine x1x 16 rfl rfl (x7x rfl (fun hc14 => ?_) (fun hc14 => ?_))
  ·simp at hc14
  try simp at hc14
  have hF : k = 3 → a8m w := by intro _; exact ⟨by omega, by omega⟩
  refine x8x (hK4 _ _ (exG (x4x rfl (z5z (b := 1) rfl rfl (by omega) (x0x rfl ?_)))))
  exact ⟨i + 1, ⟨⟨by omega, a0i h2 hw ⟨hW, hk, hO, hF⟩⟩, by omega⟩, [], cv, cv, hv, hv, rfl⟩
 refine x1x 2 rfl rfl (z1z rfl rfl (y7y rfl rfl v4v rfl v3v rfl hw (x1x 2 rfl rfl (z1z rfl rfl (z3z rfl q2q rfl (x1x 2 rfl rfl (z9z rfl rfl ?_ ?_)))))))<;>intro o<;>try simp at o
 ·refine x1x 8 rfl rfl (x7x rfl (fun hc13 => ?_) (fun hc13 => ?_))
  rotate_left
  ·simp at hc13
  try simp at hc13
  have hX5 : ¬ (k = 3 → a8m w) := fun h => by have := h (by omega); unfold a8m at this; omega
  refine exR (x0x rfl (x6x ⟨.inr rfl, ?_⟩))
  refine y9y rfl ?_ rfl
  exact congrArg (fun b : Bool => [AV.pv (.bool b)]) (a5l (fun h => hX5 (fun e => h.2 e w (List.mem_of_getElem? hw))))
 refine x1x 2 rfl rfl (z1z rfl rfl (y7y rfl rfl v4v rfl v3v rfl hw (x1x 2 rfl rfl (z1z rfl rfl (z3z rfl q2q rfl (x1x 3 rfl rfl (y4y rfl ?_ ?_)))))))<;>intro o<;>try simp at o
 ·have hF : k = 3 → a8m w := by intro _; exact ⟨by omega, by omega⟩
  refine x8x (hK4 _ _ (exG (x4x rfl (z5z (b := 1) rfl rfl (by omega) (x0x rfl ?_)))))
  exact ⟨i + 1, ⟨⟨by omega, a0i h2 hw ⟨hW, hk, hO, hF⟩⟩, by omega⟩, [], cv, cv, hv, hv, rfl⟩
 have hX5 : ¬ (k = 3 → a8m w) := fun h => by have := h (by omega); unfold a8m at this; omega
 refine exR (x0x rfl (x6x ⟨.inr rfl, ?_⟩))
 refine y9y rfl ?_ rfl
 exact congrArg (fun b : Bool => [AV.pv (.bool b)]) (a5l (fun h => hX5 (fun e => h.2 e w (List.mem_of_getElem? hw))))
theorem a8x (c : Bool) (h : Hb) : a1r Tryz.prog 323 [.agg (a8n c h)] (.pv (.bool (kb (a0r h)))) := by
 refine pX Tryz.f323 [.pv (.bool (kb (a0r h)))] 1 ?_
 refine exR (u2u (id := 0) rfl rfl rfl (x0x rfl (exD (x1x 2 rfl rfl (x9x rfl rfl rfl (w0w ..) (x9x rfl rfl rfl (u7u ..) (x4x rfl (z9z rfl rfl ?_ ?_))))))))<;>intro o<;>try simp at o
 ·have hX : ¬ (0 ≤ h.round ∧ h.round ≤ 9999) := by omega
  refine x1x 14 rfl rfl ⟨by kernel_rfl, x6x ⟨.inr rfl, ?_⟩⟩
  refine y9y rfl ?_ rfl
  exact congrArg (fun b : Bool => [AV.pv (.bool b)]) (a5l (fun h => hX h.1))
 have hR : 0 ≤ h.round ∧ h.round ≤ 9999 := by omega
 refine x1x 2 rfl rfl (z1z rfl rfl (x9x rfl rfl rfl (a9k ..) (x1x 2 rfl rfl (z9z rfl rfl ?_ ?_))))<;>intro hg2<;>try simp at hg2
 ·have hX1 : ¬ (b1t h.ones 3 ∧ ((3 : Int) = 3 → ∀ w ∈ h.ones, a8m w)) := a0k (by simpa using hg2)
  refine x1x 9 rfl rfl ⟨by kernel_rfl, x6x ⟨.inr rfl, ?_⟩⟩
  refine y9y rfl ?_ rfl
  exact congrArg (fun b : Bool => [AV.pv (.bool b)]) (a5l (fun h => hX1 ⟨h.2.1, fun _ => h.2.2.2.2⟩))
 have h1 : b1t h.ones 3 ∧ ((3 : Int) = 3 → ∀ w ∈ h.ones, a8m w) := a1o.1 (by simpa using hg2)
 refine x1x 2 rfl rfl (z1z rfl rfl (x9x rfl rfl rfl (a9k ..) (x1x 2 rfl rfl (z9z rfl rfl ?_ ?_))))<;>intro hg3<;>try simp at hg3
 ·have hX2 : ¬ (b1t h.twos 5 ∧ ((5 : Int) = 3 → ∀ w ∈ h.twos, a8m w)) := a0k (by simpa using hg3)
  refine x1x 4 rfl rfl ⟨by kernel_rfl, x6x ⟨.inr rfl, ?_⟩⟩
  refine y9y rfl ?_ rfl
  exact congrArg (fun b : Bool => [AV.pv (.bool b)]) (a5l (fun h => hX2 ⟨h.2.2.1, fun e => by omega⟩))
 have h2 : b1t h.twos 5 ∧ ((5 : Int) = 3 → ∀ w ∈ h.twos, a8m w) := a1o.1 (by simpa using hg3)
 refine x1x 2 rfl rfl (z1z rfl rfl (x9x rfl rfl rfl (a9k ..) (x1x 2 rfl rfl ⟨by kernel_rfl, x6x ⟨.inr rfl, ?_⟩⟩)))
 refine y9y rfl ?_ rfl
 exact congrArg (fun b : Bool => [AV.pv (.bool b)]) (congrArg kb (propext ⟨fun h => ⟨hR, h1.1, h2.1, h.1, h1.2 rfl⟩, fun h => ⟨h.2.2.2.1, fun e => by omega⟩⟩))
end
section
theorem a8h (c : Bool) (l : List Wo) (hb : ∀ w ∈ l, wob w) (hl : l.length ≤ 1000000) : a1r Tryz.prog 334 [q3q c l] (q3q true l) := by
 refine pX Tryz.f334 [q3q true l] 3 ?_
 refine exR (x0x rfl (exR (z8z (id := 0) v4v rfl v3v rfl (x0x rfl (x2x fun K1 hK1 => ?_)))))
 refine exR (x0x rfl (y0y ?_))
 refine z2z (ι := Nat) (fun i γ1 => [(3, .ref 0 (γ1 0)), (4, pI (i : Int))]) (fun i γ1 => [(0, ((γ1 0), .row 79 11 ((l.take i).map (p4p true)))), (1, ((γ1 1), .dead)), (2, ((γ1 2), .dead))]) (fun i => i ≤ l.length) (fun i => l.length - i) (y3y 0 rfl Cov.nil) HE.nil 0 (by omega) [_, _, _] cv (HE.row rfl (by rw [List.take_zero]; rfl) (HE.kill rfl (HE.kill rfl HE.nil))) rfl fun i γ1 hi => ?_
 refine x2x fun K2 hK2 => ?_
 refine exA 2 rfl rfl (z3z rfl v4v rfl (v6v rfl rfl rfl (y4y rfl ?_ ?_)))<;>intro u<;>try simp at u
 ·obtain rfl : i = l.length := by omega
  refine z4z (hK1 _ _ (exA 2 rfl rfl (x6x ⟨.inr rfl, ?_⟩)))
  refine a3y rfl rfl (fun _ => rfl) ?_
  rw [List.take_length]
 obtain ⟨w, hw⟩ := gE l i
 have hwb := hb w (List.mem_of_getElem? hw)
 refine x8x (hK2 _ _ (x2x fun K4 hK4 => ?_))
 refine y0y (exG (x1x 3 rfl rfl (y7y rfl rfl v4v rfl v3v rfl hw ?_)))
 refine w4w (out := .agg (p4p c w)) rfl v3v rfl ?_
 refine x9x rfl rfl rfl (a4w c w hwb) (u3u (id := 1) v4v rfl v3v rfl rfl rfl rfl rfl rfl ?_)
 refine u6u (zs := (l.take i ++ [w]).map (p4p true)) rfl rfl v4v rfl v3v rfl rfl rfl rfl (by rfl) (w2w _ _ _) (by (simp only [a1c, a0m, a0u, a0v, a1z, a4b, T79]; omega)) ?_
 refine x0x rfl (hK4 _ _ (exG (x4x rfl (p5p rfl rfl rfl (x0x rfl ?_)))))
 exact ⟨i + 1, ⟨by omega, by omega⟩, [_, _, _], (y3y 3 rfl (Cov.cons' (t := 4) rfl (by rw [u4u (by omega) (by omega)]; rfl) Cov.nil)), cv, (HE.row rfl (by rw [w1w hw]) (HE.kill rfl (HE.kill rfl HE.nil))), hv, rfl⟩
theorem a3m (c : Bool) (h : Hb) (hk : a0r h) : a1r Tryz.prog 324 [.agg (a8n c h)] (.agg (a8n true h)) := by
 refine pX Tryz.f324 [.agg (a8n true h)] 2 ?_
 have e1 := b5m hk.2.1
 have e2 := b5m hk.2.2.1
 have e3 := b5m hk.2.2.2.1
 refine exR (u2u (id := 0) rfl rfl rfl (y6y (id := 1) q7q b4v rfl (exD (x1x 4 rfl rfl (x9x rfl rfl rfl (a8h c h.ones (d1v hk.2.1) (by omega)) ?_)))))
 refine x1x 2 rfl rfl (x9x rfl rfl rfl (a8h c h.twos (d1v hk.2.2.1) (by omega)) ?_)
 refine x1x 2 rfl rfl (x9x rfl rfl rfl (a8h c h.outs (d1v hk.2.2.2.1) (by omega)) ?_)
 refine rlB q7q b4v ?_
 refine x3x rfl rfl q7q rfl rfl rfl rfl ⟨by kernel_rfl, x6x ⟨.inr rfl, ?_⟩⟩
 exact a9d rfl rfl rfl rfl
theorem a7p (l : List Wo) (w : Wo) (ag : Bool) (hl : l.length ≤ 1000000) : a1r Tryz.prog 330 [q3q true l, .agg (p4p true w), .pv (.bool (ag))] (q3q true (a6x w ag l false)) := by
 refine pX Tryz.f330 [q3q true (a6x w ag l false)] 10 ?_
 refine exR (u2u (id := 0) rfl rfl rfl (x0x rfl (exR (z8z (id := 1) v4v rfl v3v rfl (x0x rfl (exR (x0x rfl (x2x fun K1 hK1 => ?_))))))))
 refine exR (x0x rfl (y0y ?_))
 refine z2z (ι := List Wo × Bool × Nat) (fun p γ1 => [(7, .ref 1 (γ1 1)), (8, .pv (.bool (p.2.1))), (9, pI (p.2.2 : Int))]) (fun p γ1 => [(1, ((γ1 1), .row 79 11 ((p.1).map (p4p true)))), (2, ((γ1 2), .dead)), (3, ((γ1 3), .dead)), (4, ((γ1 4), .dead)), (5, ((γ1 5), .dead)), (6, ((γ1 6), .dead)), (7, ((γ1 7), .dead))]) (fun p => p.2.2 ≤ l.length ∧ p.1.length ≤ 2 * p.2.2 ∧ p.1 ++ a6x w ag (l.drop p.2.2) p.2.1 = a6x w ag l false) (fun p => l.length - p.2.2) (cK [0, 2, 4] rfl) (hK [0, 8, 9] rfl) ([], false, 0) ⟨by show 0 ≤ _; omega, by show 0 ≤ _; omega, rfl⟩ [0, _, _, _, _, _, _, _] cv hv rfl fun p γ1 hi => ?_
 obtain ⟨o, d, i⟩ := p
 obtain ⟨h1, h2, h3⟩ := hi
 dsimp only at h1 h2 h3 ⊢
 refine x2x fun K2 hK2 => ?_
 refine exA 2 rfl rfl (z3z rfl v4v rfl (v6v rfl rfl rfl (y4y rfl ?_ ?_)))<;>intro u<;>try simp at u
 ·obtain rfl : i = l.length := by omega
  rw [List.drop_length] at h3
  refine z4z (hK1 _ _ (x2x fun K14 hK14 => ?_))
  refine exA 2 rfl rfl (y4y rfl ?_ ?_)<;>intro hc15<;>try simp at hc15
  ·obtain rfl : d = true := hc15
   refine x8x (hK14 _ _ (exA 2 rfl rfl (x6x ⟨.inr rfl, ?_⟩)))
   refine a3y rfl rfl (fun _ => rfl) ?_
   (rw [← h3]; exact (List.append_nil _).symm)
  obtain rfl : d = false := hc15
  refine exG (x1x 2 rfl rfl (u3u (id := 8) v4v rfl v3v rfl rfl rfl rfl rfl rfl ?_))
  refine u6u (zs := (o ++ [w]).map (p4p true)) rfl rfl v4v rfl v3v rfl rfl rfl rfl (by rfl) (w2w _ _ _) (by (simp only [a1c, a0m, a0u, a0v, a1z, a4b, T79]; omega)) ?_
  refine x0x rfl (hK14 _ _ (exA 2 rfl rfl (x6x ⟨.inr rfl, ?_⟩)))
  refine a3y rfl rfl (fun _ => rfl) ?_
  exact h3
 obtain ⟨x, hx⟩ := gE l i
 refine x8x (hK2 _ _ (x2x fun K4 hK4 => ?_))
 refine y0y (x2x fun K5 hK5 => ?_)
 refine exD (x1x 2 rfl rfl (y7y rfl rfl v4v rfl v3v rfl hx (x1x 5 rfl rfl ⟨by kernel_rfl, x7x rfl ?_ ?_⟩)))<;>intro hc6<;>try simp at hc6
 ·have hq : x.from' = w.from' := hc6
  refine exR (x0x rfl (exR (x4x rfl (x7x rfl ?_ ?_))))<;>intro hc7<;>try simp at hc7
  ·obtain rfl : ag = true := hc7
   have hN : i + 1 ≤ l.length ∧ (o ++ [w]).length ≤ 2 * (i + 1) ∧ (o ++ [w]) ++ a6x w true (l.drop (i + 1)) true = a6x w true l false := ⟨by omega, by simp only [a0m, a0u, a0v]; omega, b1c h3 (by rw [s0s hx]; exact f1i hq)⟩
   refine exA 2 rfl rfl (u3u (id := 2) v4v rfl v3v rfl rfl rfl rfl rfl rfl ?_)
   refine u6u (zs := (o ++ [w]).map (p4p true)) rfl rfl v4v rfl v3v rfl rfl rfl rfl (by rfl) (w2w _ _ _) (by (simp only [a1c, a0m, a0u, a0v, a1z, a4b, T79]; omega)) ?_
   refine x0x rfl (z4z (hK4 _ _ (exG (x4x rfl (z5z (b := 1) rfl rfl (by omega) (x0x rfl ?_))))))
   exact ⟨(_, _, _), ⟨hN, (by show l.length - (i + 1) < l.length - i; omega)⟩, [0, _, _, _, _, _, _, _], cv, cv, hv, hv, rfl⟩
  obtain rfl : ag = false := hc7
  have hN : i + 1 ≤ l.length ∧ (o ++ [x]).length ≤ 2 * (i + 1) ∧ (o ++ [x]) ++ a6x w false (l.drop (i + 1)) true = a6x w false l false := ⟨by omega, by simp only [a0m, a0u, a0v]; omega, b1c h3 (by rw [s0s hx]; exact f1j hq)⟩
  refine x8x (hK5 _ _ (x2x fun K8 hK8 => ?_))
  refine exD (x1x 12 rfl rfl ⟨by kernel_rfl, x7x rfl (fun hc9 => ?_) (fun hc9 => ?_)⟩)
  ·simp at hc9
  try simp at hc9
  try have hN : i + 1 ≤ l.length ∧ (o ++ [x]).length ≤ 2 * (i + 1) ∧ (o ++ [x]) ++ a6x w ag (l.drop (i + 1)) false = a6x w ag l false := ⟨by omega, by simp only [a0m, a0u, a0v]; omega, b1c h3 (by rw [s0s hx]; exact d4c hq (by rintro ⟨_, h⟩; omega))⟩
  refine x8x (hK8 _ _ (exG (x1x 3 rfl rfl (y7y rfl rfl v4v rfl v3v rfl hx ?_))))
  refine w4w (out := .agg (p4p true x)) rfl v3v rfl ?_
  refine u3u (id := 6) v4v rfl v3v rfl rfl rfl rfl rfl rfl ?_
  refine u6u (zs := (o ++ [x]).map (p4p true)) rfl rfl v4v rfl v3v rfl rfl rfl rfl (by rfl) (w2w _ _ _) (by (simp only [a1c, a0m, a0u, a0v, a1z, a4b, T79]; omega)) ?_
  refine x0x rfl (hK4 _ _ (exG (x4x rfl (z5z (b := 1) rfl rfl (by omega) (x0x rfl ?_)))))
  exact ⟨(_, _, _), ⟨hN, (by show l.length - (i + 1) < l.length - i; omega)⟩, [0, _, _, _, _, _, _, _], cv, cv, hv, hv, rfl⟩
 have hq : ¬ x.from' = w.from' := hc6
 refine x8x (hK5 _ _ (x2x fun K10 hK10 => ?_))
 refine exD (x1x 3 rfl rfl (z9z rfl rfl ?_ ?_))<;>intro hg11<;>try simp at hg11
 ·obtain rfl : d = true := hg11
  have hN : i + 1 ≤ l.length ∧ (o ++ [x]).length ≤ 2 * (i + 1) ∧ (o ++ [x]) ++ a6x w ag (l.drop (i + 1)) true = a6x w ag l false := ⟨by omega, by simp only [a0m, a0u, a0v]; omega, b1c h3 (by rw [s0s hx]; exact d4c hq (by simp))⟩
  refine x1x 8 rfl rfl ⟨by kernel_rfl, x7x rfl (fun hc13 => ?_) (fun hc13 => ?_)⟩
  ·simp at hc13
  try simp at hc13
  try have hN : i + 1 ≤ l.length ∧ (o ++ [x]).length ≤ 2 * (i + 1) ∧ (o ++ [x]) ++ a6x w ag (l.drop (i + 1)) false = a6x w ag l false := ⟨by omega, by simp only [a0m, a0u, a0v]; omega, b1c h3 (by rw [s0s hx]; exact d4c hq (by rintro ⟨_, h⟩; omega))⟩
  refine x8x (hK10 _ _ (exG (x1x 3 rfl rfl (y7y rfl rfl v4v rfl v3v rfl hx ?_))))
  refine w4w (out := .agg (p4p true x)) rfl v3v rfl ?_
  refine u3u (id := 6) v4v rfl v3v rfl rfl rfl rfl rfl rfl ?_
  refine u6u (zs := (o ++ [x]).map (p4p true)) rfl rfl v4v rfl v3v rfl rfl rfl rfl (by rfl) (w2w _ _ _) (by (simp only [a1c, a0m, a0u, a0v, a1z, a4b, T79]; omega)) ?_
  refine x0x rfl (hK4 _ _ (exG (x4x rfl (z5z (b := 1) rfl rfl (by omega) (x0x rfl ?_)))))
  exact ⟨(_, _, _), ⟨hN, (by show l.length - (i + 1) < l.length - i; omega)⟩, [0, _, _, _, _, _, _, _], cv, cv, hv, hv, rfl⟩
 obtain rfl : d = false := hg11
 refine x1x 2 rfl rfl (z1z rfl rfl (y7y rfl rfl v4v rfl v3v rfl hx (x1x 6 rfl rfl ⟨by kernel_rfl, y4y rfl ?_ ?_⟩)))<;>intro u<;>try simp at u
 ·try have hN : i + 1 ≤ l.length ∧ (o ++ [x]).length ≤ 2 * (i + 1) ∧ (o ++ [x]) ++ a6x w ag (l.drop (i + 1)) false = a6x w ag l false := ⟨by omega, by simp only [a0m, a0u, a0v]; omega, b1c h3 (by rw [s0s hx]; exact d4c hq (by rintro ⟨_, h⟩; omega))⟩
  refine x8x (hK10 _ _ (exG (x1x 3 rfl rfl (y7y rfl rfl v4v rfl v3v rfl hx ?_))))
  refine w4w (out := .agg (p4p true x)) rfl v3v rfl ?_
  refine u3u (id := 6) v4v rfl v3v rfl rfl rfl rfl rfl rfl ?_
  refine u6u (zs := (o ++ [x]).map (p4p true)) rfl rfl v4v rfl v3v rfl rfl rfl rfl (by rfl) (w2w _ _ _) (by (simp only [a1c, a0m, a0u, a0v, a1z, a4b, T79]; omega)) ?_
  refine x0x rfl (hK4 _ _ (exG (x4x rfl (z5z (b := 1) rfl rfl (by omega) (x0x rfl ?_)))))
  exact ⟨(_, _, _), ⟨hN, (by show l.length - (i + 1) < l.length - i; omega)⟩, [0, _, _, _, _, _, _, _], cv, cv, hv, hv, rfl⟩
 have hN : i + 1 ≤ l.length ∧ (o ++ [w] ++ [x]).length ≤ 2 * (i + 1) ∧ (o ++ [w] ++ [x]) ++ a6x w ag (l.drop (i + 1)) true = a6x w ag l false := ⟨by omega, by simp only [a0m, a0u, a0v]; omega, by rw [List.append_assoc o]; exact b1c h3 (by rw [s0s hx]; exact f1k hq (by omega))⟩
 refine exA 2 rfl rfl (u3u (id := 4) v4v rfl v3v rfl rfl rfl rfl rfl rfl ?_)
 refine u6u (zs := (o ++ [w]).map (p4p true)) rfl rfl v4v rfl v3v rfl rfl rfl rfl (by rfl) (w2w _ _ _) (by (simp only [a1c, a0m, a0u, a0v, a1z, a4b, T79]; omega)) ?_
 refine x0x rfl (exG (x0x rfl (hK10 _ _ (exG (x1x 3 rfl rfl (y7y rfl rfl v4v rfl v3v rfl hx ?_))))))
 refine w4w (out := .agg (p4p true x)) rfl v3v rfl ?_
 refine u3u (id := 6) v4v rfl v3v rfl rfl rfl rfl rfl rfl ?_
 refine u6u (zs := (o ++ [w] ++ [x]).map (p4p true)) rfl rfl v4v rfl v3v rfl rfl rfl rfl (by rfl) (w2w _ _ _) (by (simp only [a1c, a0m, a0u, a0v, a1z, a4b, T79]; omega)) ?_
 refine x0x rfl (hK4 _ _ (exG (x4x rfl (z5z (b := 1) rfl rfl (by omega) (x0x rfl ?_)))))
 exact ⟨(_, _, _), ⟨hN, (by show l.length - (i + 1) < l.length - i; omega)⟩, [0, _, _, _, _, _, _, _], cv, cv, hv, hv, rfl⟩
theorem b7f (k f t i0 v r g : Int) : a1r Tryz.prog 325 [.agg [pI k, pI f, pI t, pI i0, pI v, pI r, pI g, .pv (.slice none 0 0), .pv (.slice none 0 0), .pv (.slice none 0 0), .pv (.slice none 0 0)]] (q3q true (e1x ⟨k, f, t, i0, v, r, g, [], [], [], []⟩)) := by
 refine pX Tryz.f325 [q3q true (e1x ⟨k, f, t, i0, v, r, g, [], [], [], []⟩)] 4 ?_
 refine exR (u2u (id := 0) rfl rfl rfl (x0x rfl (exR (z8z (id := 1) v4v rfl v3v rfl (x0x rfl (x2x fun K1 hK1 => ?_))))))
 refine exR (x0x rfl (y0y ?_))
 refine z2z (ι := Nat) (fun i γ1 => [(3, .ref 1 (γ1 1)), (4, pI ((i + 1 : Nat) : Int))]) (fun i γ1 => [(1, ((γ1 1), .row 79 11 ((List.range i).map fun (j : Nat) => [pI k, pI f, pI ((j + 1 : Nat) : Int), pI i0, pI v, pI r, pI g, .pv (.slice none 0 0), .pv (.slice none 0 0), .pv (.slice none 0 0), .pv (.slice none 0 0)]))), (0, ((0 + 1), .box 79 [pI k, pI f, pI (if i = 0 then t else ((i : Nat) : Int)), pI i0, pI v, pI r, pI g, .pv (.slice none 0 0), .pv (.slice none 0 0), .pv (.slice none 0 0), .pv (.slice none 0 0)])), (2, ((γ1 2), .dead)), (3, ((γ1 3), .dead))]) (fun i => i ≤ 2) (fun i => 2 - i) (y3y 1 rfl Cov.nil) HE.nil 0 (by omega) [0, _, _, _] cv (HE.row rfl (by rfl) (HE.box rfl (by rfl) (HE.kill rfl (HE.kill rfl HE.nil)))) rfl fun i γ1 hi => ?_
 refine x2x fun K2 hK2 => ?_
 refine exA 2 rfl rfl (y4y rfl ?_ ?_)<;>intro u<;>try simp at u
 ·obtain rfl : i = 2 := by omega
  refine z4z (hK1 _ _ (exA 2 rfl rfl ?_))
  refine c8k (f := fun (j : Nat) => [pI k, pI f, pI ((j + 1 : Nat) : Int), pI i0, pI v, pI r, pI g, .pv (.slice none 0 0), .pv (.slice none 0 0), .pv (.slice none 0 0), .pv (.slice none 0 0)]) (f' := fun (j : Nat) => p4p true ⟨k, f, ((j + 1 : Nat) : Int), i0, v, r, g, [], [], [], []⟩) (l := List.range 2) 1 rfl (fun _ => .same (.same (.same (.same (.same (.same (.same (.le rfl .nil rfl (.le rfl .nil rfl (.le rfl .nil rfl (.le rfl .nil rfl .nil))))))))))) ?_
  refine x6x ⟨.inr rfl, ?_⟩
  exact a3y (l := List.range 2) (l' := List.range 2) (f := fun (j : Nat) => p4p true ⟨k, f, ((j + 1 : Nat) : Int), i0, v, r, g, [], [], [], []⟩) rfl rfl (fun _ => rfl) rfl
 refine x8x (hK2 _ _ (x2x fun K4 hK4 => ?_))
 refine y0y (exA 2 rfl rfl (z0z rfl rfl q1q rfl rfl rfl rfl rfl (by simp only [a1h]; rfl) ?_))
 refine exG (x1x 2 rfl rfl (u3u (id := 2) v4v rfl v3v rfl rfl rfl rfl rfl rfl ?_))
 refine u6u (zs := ((List.range i).map fun (j : Nat) => [pI k, pI f, pI ((j + 1 : Nat) : Int), pI i0, pI v, pI r, pI g, .pv (.slice none 0 0), .pv (.slice none 0 0), .pv (.slice none 0 0), .pv (.slice none 0 0)]) ++ [[pI k, pI f, pI ((i + 1 : Nat) : Int), pI i0, pI v, pI r, pI g, .pv (.slice none 0 0), .pv (.slice none 0 0), .pv (.slice none 0 0), .pv (.slice none 0 0)]]) rfl rfl v4v rfl v3v rfl rfl rfl rfl (by rfl) rfl (by (simp only [a1c, a0m, a0u, a0v, a1z, a4b, T79]; omega)) ?_
 refine x0x rfl (hK4 _ _ (exG (x4x rfl (z5z (b := 1) rfl rfl (by omega) (x0x rfl ?_)))))
 exact ⟨i + 1, ⟨by omega, by omega⟩, [0, _, _, _], cv, cv, (HE.row rfl (by rw [List.range_succ, List.map_append]; rfl) (HE.box rfl (by rw [if_neg (by omega : ¬ i + 1 = 0)] <;> rfl) (HE.kill rfl (HE.kill rfl HE.nil)))), hv, rfl⟩
theorem c2i (k f t i0 v r g : Int) : Meth Tryz.prog 325 1 [] [.agg [pI k, pI f, pI t, pI i0, pI v, pI r, pI g, .pv (.slice none 0 0), .pv (.slice none 0 0), .pv (.slice none 0 0), .pv (.slice none 0 0)]] [(0, (0, .dead))] (.ref 0 0) [(0, (0, .row 79 11 ((e1x ⟨k, f, t, i0, v, r, g, [], [], [], []⟩).map (p4p true))))] := by
 refine mX Tryz.f325 [.ref 0 0] 1 3 fun γ => ?_
 refine exR (u2u (id := 1) rfl rfl rfl (x0x rfl (exR (z8z (id := 0) v4v rfl v3v rfl (x0x rfl (x2x fun K1 hK1 => ?_))))))
 refine exR (x0x rfl (y0y ?_))
 refine z2z (ι := Nat) (fun i γ1 => [(3, .ref 0 (γ1 0)), (4, pI ((i + 1 : Nat) : Int))]) (fun i γ1 => [(0, ((γ1 0), .row 79 11 ((List.range i).map fun (j : Nat) => [pI k, pI f, pI ((j + 1 : Nat) : Int), pI i0, pI v, pI r, pI g, .pv (.slice none 0 0), .pv (.slice none 0 0), .pv (.slice none 0 0), .pv (.slice none 0 0)]))), (1, ((0 + 1), .box 79 [pI k, pI f, pI (if i = 0 then t else ((i : Nat) : Int)), pI i0, pI v, pI r, pI g, .pv (.slice none 0 0), .pv (.slice none 0 0), .pv (.slice none 0 0), .pv (.slice none 0 0)])), (2, ((γ1 2), .dead)), (3, ((γ1 3), .dead))]) (fun i => i ≤ 2) (fun i => 2 - i) (y3y 1 rfl Cov.nil) HE.nil 0 (by omega) [_, 0, _, _] cv (HE.row rfl (by rfl) (HE.box rfl (by rfl) (HE.kill rfl (HE.kill rfl HE.nil)))) rfl fun i γ1 hi => ?_
 refine x2x fun K2 hK2 => ?_
 refine exA 2 rfl rfl (y4y rfl ?_ ?_)<;>intro u<;>try simp at u
 ·obtain rfl : i = 2 := by omega
  refine z4z (hK1 _ _ (exA 2 rfl rfl ?_))
  refine c8k (f := fun (j : Nat) => [pI k, pI f, pI ((j + 1 : Nat) : Int), pI i0, pI v, pI r, pI g, .pv (.slice none 0 0), .pv (.slice none 0 0), .pv (.slice none 0 0), .pv (.slice none 0 0)]) (f' := fun (j : Nat) => p4p true ⟨k, f, ((j + 1 : Nat) : Int), i0, v, r, g, [], [], [], []⟩) (l := List.range 2) 0 rfl (fun _ => .same (.same (.same (.same (.same (.same (.same (.le rfl .nil rfl (.le rfl .nil rfl (.le rfl .nil rfl (.le rfl .nil rfl .nil))))))))))) ?_
  refine x6x ?_
  exact ⟨.inr rfl, [_], rfl, rfl, hv⟩
 refine x8x (hK2 _ _ (x2x fun K4 hK4 => ?_))
 refine y0y (exA 2 rfl rfl (z0z rfl rfl q1q rfl rfl rfl rfl rfl (by simp only [a1h]; rfl) ?_))
 refine exG (x1x 2 rfl rfl (u3u (id := 2) v4v rfl v3v rfl rfl rfl rfl rfl rfl ?_))
 refine u6u (zs := ((List.range i).map fun (j : Nat) => [pI k, pI f, pI ((j + 1 : Nat) : Int), pI i0, pI v, pI r, pI g, .pv (.slice none 0 0), .pv (.slice none 0 0), .pv (.slice none 0 0), .pv (.slice none 0 0)]) ++ [[pI k, pI f, pI ((i + 1 : Nat) : Int), pI i0, pI v, pI r, pI g, .pv (.slice none 0 0), .pv (.slice none 0 0), .pv (.slice none 0 0), .pv (.slice none 0 0)]]) rfl rfl v4v rfl v3v rfl rfl rfl rfl (by rfl) rfl (by (simp only [a1c, a0m, a0u, a0v, a1z, a4b, T79]; omega)) ?_
 refine x0x rfl (hK4 _ _ (exG (x4x rfl (z5z (b := 1) rfl rfl (by omega) (x0x rfl ?_)))))
 exact ⟨i + 1, ⟨by omega, by omega⟩, [_, 0, _, _], cv, cv, (HE.row rfl (by rw [List.range_succ, List.map_append]; rfl) (HE.box rfl (by rw [if_neg (by omega : ¬ i + 1 = 0)] <;> rfl) (HE.kill rfl (HE.kill rfl HE.nil)))), hv, rfl⟩
theorem c7f (l : List Wo) (f : Int) : a1r Tryz.prog 329 [q3q true l, .pv (.int .i64 f)] (.tup [.agg (p4p true (e9q f l)), .pv (.bool (b5n f l).isSome)]) := by
 refine pX Tryz.f329 [.agg (p4p true (e9q f l)), .pv (.bool (b5n f l).isSome)] 1 ?_
 refine r1r 0 rfl fun hlen => ?_
 refine exR (y6y (id := 0) v3v a9u rfl (x0x rfl (x2x fun K1 hK1 => ?_)))
 refine exR (x0x rfl (y0y ?_))
 refine z2z (ι := Nat) (fun i γ1 => [(6, pI (i : Int))]) (fun i γ1 => []) (fun i => i ≤ l.length ∧ c7i l (fun _ w => ¬ w.from' = f) i) (fun i => l.length - i) (cK [0, 1, 4] rfl) (y8y 0 rfl HE.nil) 0 ⟨by omega, a2i⟩ [] cv hv rfl fun i γ1 hi => ?_
 obtain ⟨h1, h2⟩ := hi
 refine x2x fun K2 hK2 => ?_
 refine exA 2 rfl rfl (z3z rfl v4v rfl (v6v rfl rfl rfl (y4y rfl ?_ ?_)))<;>intro u<;>try simp at u
 ·have hno := e4n (a3q h2 (by omega))
  refine z4z (hK1 _ _ (exR (rlB v3v a9u ?_)))
  refine x3x rfl rfl v3v rfl rfl rfl rfl (x0x rfl (x6x ⟨.inr rfl, ?_⟩))
  (rw [e9q, hno]; exact ⟨_, _, rfl, c6q (.cl rfl .nil)⟩)
 obtain ⟨w, hw⟩ := gE l i
 refine x8x (hK2 _ _ (x2x fun K4 hK4 => ?_))
 refine y0y (exA 2 rfl rfl (y7y rfl rfl v4v rfl v3v rfl hw (x1x 4 rfl rfl (y4y rfl ?_ ?_))))<;>intro hc5<;>try simp at hc5
 ·have hne : ¬ w.from' = f := hc5
  refine x8x (hK4 _ _ (exG (x4x rfl (z5z (b := 1) rfl rfl (by omega) (x0x rfl ?_)))))
  exact ⟨i + 1, ⟨⟨by omega, a0i h2 hw hne⟩, by omega⟩, [], cv, cv, hv, hv, rfl⟩
 have hat := d4e h2 hw hc5
 refine exA 2 rfl rfl (y7y rfl rfl v4v rfl v3v rfl hw ?_)
 refine w4w (out := .agg (p4p true w)) rfl v3v rfl ?_
 refine x3x rfl rfl v3v rfl rfl rfl rfl (x0x rfl (x6x ⟨.inr rfl, ?_⟩))
 (rw [e9q, hat]; exact ⟨_, _, rfl, .agg rfl (.cl rfl (.cl rfl (.cl rfl (.cl rfl (.cl rfl (.cl rfl (.cl rfl (.cl rfl (.cl rfl (.cl rfl (.cl rfl (.nil)))))))))))) (.cl rfl .nil)⟩)
theorem c2j (c : Bool) (h : Hb) : a1r Tryz.prog 332 [.agg (a8n c h)] (.tup [.pv (.int .i64 (s3s h).1), .pv (.bool (s3s h).2)]) := by
 refine pX Tryz.f332 [.pv (.int .i64 (s3s h).1), .pv (.bool ((s3s h).2))] 1 ?_
 refine exR (u2u (id := 0) rfl rfl rfl (x1x 2 rfl rfl (x2x fun K1 hK1 => ?_)))
 refine exR (x5x rfl q7q rfl rfl rfl (x9x rfl rfl rfl (a8x ..) (x1x 2 rfl rfl (z9z rfl rfl ?_ ?_))))<;>intro hg2<;>try simp at hg2
 ·have hX : ¬ a7g h := fun q => a0k (by simpa using hg2) q.1
  refine x1x 10 rfl rfl (x7x rfl (fun hc21 => ?_) (fun hc21 => ?_))
  rotate_left
  ·simp at hc21
  try simp at hc21
  try have hX : ¬ a7g h := fun q => by have := q.2.1; have := q.2.2.1; omega
  refine exA 2 rfl rfl (x6x ⟨.inr rfl, ?_⟩)
  (rw [b5o hX]; exact ⟨_, _, rfl, .cl rfl (.cl rfl .nil)⟩)
 have hK : a0r h := a1o.1 (by simpa using hg2)
 refine x1x 2 rfl rfl (z1z rfl rfl (z3z rfl v4v rfl (x1x 3 rfl rfl (z9z rfl rfl ?_ ?_))))<;>intro u<;>try simp at u
 ·refine x1x 4 rfl rfl (x7x rfl (fun hc20 => ?_) (fun hc20 => ?_))
  rotate_left
  ·simp at hc20
  try simp at hc20
  try have hX : ¬ a7g h := fun q => by have := q.2.1; have := q.2.2.1; omega
  refine exA 2 rfl rfl (x6x ⟨.inr rfl, ?_⟩)
  (rw [b5o hX]; exact ⟨_, _, rfl, .cl rfl (.cl rfl .nil)⟩)
 refine x1x 2 rfl rfl (z1z rfl rfl (z3z rfl v4v rfl (x1x 2 rfl rfl (x7x rfl ?_ ?_))))<;>intro u<;>try simp at u
 ·try have hX : ¬ a7g h := fun q => by have := q.2.1; have := q.2.2.1; omega
  refine exA 2 rfl rfl (x6x ⟨.inr rfl, ?_⟩)
  (rw [b5o hX]; exact ⟨_, _, rfl, .cl rfl (.cl rfl .nil)⟩)
 have e1 : h.ones.length = 3 := by omega
 have e2 : h.twos.length = 3 := by omega
 refine x8x (hK1 _ _ (exR (x0x rfl (x2x fun K5 hK5 => ?_))))
 refine exR (x0x rfl (y0y ?_))
 refine z2z (ι := Nat) (fun i γ1 => [(4, pI (a2b 41 (h.ones.take i))), (5, pI (i : Int))]) (fun i γ1 => []) (fun i => i ≤ 3 ∧ ∀ j, j < i → e0l h j) (fun i => 3 - i) (y3y 1 rfl Cov.nil) (y8y 0 rfl HE.nil) 0 ⟨by omega, fun j hj => by omega⟩ [] (Cov.cons' (t := 4) rfl (rfl) (y3y 5 rfl Cov.nil)) hv rfl fun i γ1 hi => ?_
 obtain ⟨h1, h1b⟩ := hi
 refine x2x fun K6 hK6 => ?_
 refine exA 2 rfl rfl (y4y rfl ?_ ?_)<;>intro u<;>try simp at u
 ·obtain rfl : i = 3 := by omega
  have hT : a7g h := ⟨hK, e1, e2, fun j hj => h1b j hj⟩
  have e3 : a2b 41 (h.ones.take 3) = a2b 41 h.ones := by rw [List.take_of_length_le (by omega)]
  refine z4z (hK5 _ _ (exA 3 rfl rfl (x6x ⟨.inr rfl, ?_⟩)))
  (rw [e8u hT, ← e3]; exact ⟨_, _, rfl, .cl rfl (.cl rfl .nil)⟩)
 obtain ⟨a, ha⟩ := gE h.ones i
 obtain ⟨b, hb⟩ := gE h.twos i
 refine x8x (hK6 _ _ (x2x fun K8 hK8 => ?_))
 refine y0y (x2x fun K9 hK9 => ?_)
 refine exD (x1x 3 rfl rfl (y7y rfl rfl v4v rfl v3v rfl ha (x1x 5 rfl rfl (y7y rfl rfl v4v rfl v3v rfl hb (x1x 3 rfl rfl ⟨by kernel_rfl, x7x rfl ?_ ?_⟩)))))<;>intro hc10<;>try simp at hc10
 ·have hX : ¬ a7g h := fun q => by have := (q.2.2.2 i (by omega) a b ha hb).1; omega
  refine exA 2 rfl rfl (x6x ⟨.inr rfl, ?_⟩)
  (rw [b5o hX]; exact ⟨_, _, rfl, .cl rfl (.cl rfl .nil)⟩)
 have hI : a.inc = b.inc := hc10
 refine x8x (hK9 _ _ ?_)
 refine a0c (ι := Unit) (fun _i γ2 => [(4, pI (a2b 41 (h.ones.take (i + 1))))]) (fun _i γ2 => []) (fun _i => True) (cK [1, 5] rfl) (y8y 0 rfl HE.nil) ?_ fun _i γ2 hi => ?_
 ·refine exA 3 rfl rfl (y7y rfl rfl v4v rfl v3v rfl ha (x1x 4 rfl rfl (y4y rfl ?_ ?_)))<;>intro u<;>try simp at u
  ·have hlt : ¬ a.g < a2b 41 (h.ones.take i) := by omega
   refine x8x ?_
   exact ⟨(), trivial, [], (Cov.cons' (t := 4) rfl (congrArg (fun v : Int => AV.pv (.int .i64 v)) (d4g ha hlt)) Cov.nil), cv, hv, hv, rfl⟩
  have hlt : a.g < a2b 41 (h.ones.take i) := by omega
  refine exG (x1x 3 rfl rfl (y7y rfl rfl v4v rfl v3v rfl ha (x1x 3 rfl rfl ?_)))
  exact ⟨(), trivial, [], (Cov.cons' (t := 4) rfl (congrArg (fun v : Int => AV.pv (.int .i64 v)) (d4f ha hlt)) Cov.nil), cv, hv, hv, rfl⟩
 ·try dsimp only [b2o, b2p]
  refine exR (x0x rfl (y0y ?_))
  refine z2z (ι := Nat) (fun k γ3 => [(6, pI (k : Int))]) (fun k γ3 => []) (fun k => k ≤ 3 ∧ ∀ (q : Nat) x, q < k → q ≠ i → h.ones[q]? = some x → x.incs.getD i 0 = b.inc ∧ x.versions.getD i 0 = b.version) (fun k => 3 - k) (cK [1, 4, 5] rfl) (y8y 0 rfl HE.nil) 0 ⟨by omega, fun q x hq => by omega⟩ [] cv hv rfl fun k γ3 hi => ?_
  obtain ⟨h2, h2b⟩ := hi
  refine x2x fun K12 hK12 => ?_
  refine exA 2 rfl rfl (y4y rfl ?_ ?_)<;>intro u<;>try simp at u
  ·have hJ : e0l h i := fun a2 b2 ha2 hb2 => by rw [ha] at ha2; rw [hb] at hb2; cases ha2; cases hb2; exact ⟨hI, fun q x hne hx => h2b q x (by have := (List.getElem?_eq_some_iff.1 hx).1; omega) hne hx⟩
   refine z4z (hK8 _ _ (exG (x4x rfl (z5z (b := 1) rfl rfl (by omega) (x0x rfl ?_)))))
   exact ⟨i + 1, ⟨⟨by omega, fun j hj => by rcases Nat.lt_succ_iff_lt_or_eq.1 hj with q | q; exact h1b j q; subst q; exact hJ⟩, by omega⟩, [], cv, cv, hv, hv, rfl⟩
  obtain ⟨x0, hx0⟩ := gE h.ones k
  have hfu := hK.2.2.2.2 x0 (List.mem_of_getElem? hx0)
  obtain ⟨fu1, fu2⟩ := hfu
  obtain ⟨z, hz⟩ := gE x0.incs i
  obtain ⟨y, hy⟩ := gE x0.versions i
  refine x8x (hK12 _ _ (x2x fun K14 hK14 => ?_))
  refine y0y (exD (x1x 4 rfl rfl (z9z rfl rfl ?_ ?_)))<;>intro u<;>try simp at u
  ·refine x1x 34 rfl rfl ⟨by kernel_rfl, x7x rfl (fun hc19 => ?_) (fun hc19 => ?_)⟩
   ·simp at hc19
   try simp at hc19
   have hS : k ≠ i → x0.incs.getD i 0 = b.inc ∧ x0.versions.getD i 0 = b.version := fun hne => by rw [b2x hz, b2x hy]; omega
   refine x8x (hK14 _ _ (exG (x4x rfl (z5z (b := 1) rfl rfl (by omega) (x0x rfl ?_)))))
   exact ⟨k + 1, ⟨⟨by omega, fun q x hq hne hx => by rcases Nat.lt_succ_iff_lt_or_eq.1 hq with q1 | q1; exact h2b q x q1 hne hx; subst q1; rw [hx0] at hx; cases hx; exact hS hne⟩, by omega⟩, [], cv, cv, hv, hv, rfl⟩
  refine x1x 3 rfl rfl (z1z rfl rfl (y7y rfl rfl v4v rfl v3v rfl hx0 (x1x 3 rfl rfl (z1z rfl rfl (y7y rfl rfl q2q rfl q1q rfl hz (x1x 4 rfl rfl (z1z rfl rfl (y7y rfl rfl v4v rfl v3v rfl hb (x1x 4 rfl rfl (z9z rfl rfl ?_ ?_))))))))))<;>intro u<;>try simp at u
  ·refine x1x 17 rfl rfl ⟨by kernel_rfl, x7x rfl (fun hc18 => ?_) (fun hc18 => ?_)⟩
   rotate_left
   ·simp at hc18
   try simp at hc18
   have hX : ¬ a7g h := fun q => by have := (q.2.2.2 i (by omega) a b ha hb).2 k x0 (by omega) hx0; rw [b2x hz, b2x hy] at this; omega
   refine exA 2 rfl rfl (x6x ⟨.inr rfl, ?_⟩)
   (rw [b5o hX]; exact ⟨_, _, rfl, .cl rfl (.cl rfl .nil)⟩)
  refine x1x 3 rfl rfl (z1z rfl rfl (y7y rfl rfl v4v rfl v3v rfl hx0 (x1x 3 rfl rfl (z1z rfl rfl (y7y rfl rfl q2q rfl q1q rfl hy (x1x 4 rfl rfl (z1z rfl rfl (y7y rfl rfl v4v rfl v3v rfl hb (x1x 5 rfl rfl ⟨by kernel_rfl, x7x rfl ?_ ?_⟩)))))))))<;>intro u<;>try simp at u
  ·have hX : ¬ a7g h := fun q => by have := (q.2.2.2 i (by omega) a b ha hb).2 k x0 (by omega) hx0; rw [b2x hz, b2x hy] at this; omega
   refine exA 2 rfl rfl (x6x ⟨.inr rfl, ?_⟩)
   (rw [b5o hX]; exact ⟨_, _, rfl, .cl rfl (.cl rfl .nil)⟩)
  have hS : k ≠ i → x0.incs.getD i 0 = b.inc ∧ x0.versions.getD i 0 = b.version := fun hne => by rw [b2x hz, b2x hy]; omega
  refine x8x (hK14 _ _ (exG (x4x rfl (z5z (b := 1) rfl rfl (by omega) (x0x rfl ?_)))))
  exact ⟨k + 1, ⟨⟨by omega, fun q x hq hne hx => by rcases Nat.lt_succ_iff_lt_or_eq.1 hq with q1 | q1; exact h2b q x q1 hne hx; subst q1; rw [hx0] at hx; cases hx; exact hS hne⟩, by omega⟩, [], cv, cv, hv, hv, rfl⟩
end
section
theorem c3s (c : Bool) (n : Nd) (fS : a2k n) (i : Nat) (l : La) (hl : n.lanes[i]? = some l) : a1r Tryz.prog 141 [.agg (w5w c n), .pv (.int .i64 (i : Int))] (.tup [.agg (v5v (b1q l (a1x n l.proc)).1), .pv (.bool (b1q l (a1x n l.proc)).2)]) := by
 refine pX Tryz.f141 [.agg (v5v (b1q l (a1x n l.proc)).1), .pv (.bool (b1q l (a1x n l.proc)).2)] 2 ?_
 have fB := q5q fS
 refine exR (u2u (id := 0) rfl rfl rfl (y6y (id := 1) z6z a8z rfl (x0x rfl (exD (x1x 3 rfl rfl (y7y rfl rfl r5r rfl v7v rfl hl (x1x 5 rfl rfl (y7y rfl rfl r5r rfl v7v rfl hl (x1x 2 rfl rfl (x9x rfl rfl rfl (a3k c n l.proc (a7v fS) (by omega) fS.2.2.2.2.2.1) ?_))))))))))
 refine x9x rfl rfl rfl (b2z c true l (a1x n l.proc)) ?_
 refine x1x 2 rfl rfl (x3x rfl rfl z6z rfl rfl rfl rfl (x0x rfl ⟨by kernel_rfl, x6x ⟨.inr rfl, ?_⟩⟩))
 exact ⟨_, _, rfl, .agg rfl (.cl rfl (.cl rfl (.cl rfl (.cl rfl (.cl rfl (.cl rfl (.cl rfl .nil))))))) (.cl rfl .nil)⟩
theorem b4n (c : Bool) (n : Nd) : a1r Tryz.prog 44 [.agg (w5w c n)] (.pv (.int .i64 (b8d n))) := by
 refine pX Tryz.f44 [.pv (.int .i64 (b8d n))] 2 ?_
 refine exR (u2u (id := 0) rfl rfl rfl (x0x rfl (exR (x0x rfl (x2x fun K1 hK1 => ?_)))))
 refine exR (x5x rfl y5y rfl rfl rfl (x9x rfl rfl rfl (q9q ..) (a1s rfl (x7x rfl ?_ ?_))))<;>intro hc2<;>try simp at hc2
 ·have fX : ¬ z7z n := a0k (by simpa using hc2)
  refine exR (x0x rfl (x6x ⟨.inr rfl, ?_⟩))
  refine y9y rfl ?_ rfl
  exact congrArg (fun v : Int => [AV.pv (.int .i64 v)]) (d9a fX).symm
 have fK : z7z n := a1o.1 (by simpa using hc2)
 have fS := fK.1
 have fB := q5q fS
 refine x8x (hK1 _ _ (x2x fun K3 hK3 => ?_))
 refine exR (x0x rfl (y0y ?_))
 refine z2z (ι := Nat) (fun i γ1 => [(3, pI (b1r n i)), (4, pI (i : Int))]) (fun i γ1 => [(1, ((γ1 1), .dead))]) (fun i => i ≤ n.lanes.length) (fun i => n.lanes.length - i) (y3y 1 rfl Cov.nil) (y8y 0 rfl HE.nil) 0 (by omega) [0, _] cv hv rfl fun i γ1 hi => ?_
 refine x2x fun K4 hK4 => ?_
 refine exA 3 rfl rfl (z3z rfl r5r rfl (v6v rfl rfl rfl (y4y rfl ?_ ?_)))<;>intro j<;>try simp at j
 ·obtain rfl : i = n.lanes.length := by omega
  refine z4z (hK3 _ _ (exA 2 rfl rfl (x6x ⟨.inr rfl, ?_⟩)))
  refine y9y rfl ?_ rfl
  exact congrArg (fun v : Int => [AV.pv (.int .i64 v)]) (c1i fK).symm
 obtain ⟨l, hl⟩ := gE n.lanes i
 have hnc := b6t fK hl
 refine x8x (hK4 _ _ (x2x fun K6 hK6 => ?_))
 refine y0y (exA 2 rfl rfl (x9x rfl rfl rfl (c3s c n fS i l hl) (x1x 3 rfl rfl (y6y (id := 1) z6z a8z rfl (x3x rfl rfl z6z rfl rfl rfl rfl (x0x rfl ?_))))))
 rw [c1h ⟨hnc.2.1, hnc.2.2.1⟩]
 refine exA 2 rfl rfl (z9z rfl rfl ?_ ?_)<;>intro hg7<;>try simp at hg7
 ·have hno : ¬ ((a5y l (a1x n l.proc)).2 = true ∧ (a5y l (a1x n l.proc)).1.time < b1r n i) := fun h => by have := h.1; simp_all
  refine x1x 4 rfl rfl (x7x rfl (fun hc9 => ?_) (fun hc9 => ?_))
  ·simp at hc9
  try simp at hc9
  refine x8x (hK6 _ _ (exG (x4x rfl (z5z (b := 1) rfl rfl (by omega) (x0x rfl ?_)))))
  exact ⟨i + 1, ⟨by omega, by omega⟩, [0, _], (Cov.cons' (t := 3) rfl (congrArg (fun v : Int => AV.pv (.int .i64 v)) (d1e hl hno).symm) (y3y 4 rfl Cov.nil)), cv, hv, hv, rfl⟩
 have h2 : (a5y l (a1x n l.proc)).2 = true := hg7
 refine x1x 5 rfl rfl (y4y rfl ?_ ?_)<;>intro j<;>try simp at j
 ·have hno : ¬ ((a5y l (a1x n l.proc)).2 = true ∧ (a5y l (a1x n l.proc)).1.time < b1r n i) := by (intro h; omega)
  refine x8x (hK6 _ _ (exG (x4x rfl (z5z (b := 1) rfl rfl (by omega) (x0x rfl ?_)))))
  exact ⟨i + 1, ⟨by omega, by omega⟩, [0, _], (Cov.cons' (t := 3) rfl (congrArg (fun v : Int => AV.pv (.int .i64 v)) (d1e hl hno).symm) (y3y 4 rfl Cov.nil)), cv, hv, hv, rfl⟩
 have h3 : (a5y l (a1x n l.proc)).1.time < b1r n i := by omega
 refine exG (x1x 3 rfl rfl (hK6 _ _ (exG (x4x rfl (z5z (b := 1) rfl rfl (by omega) (x0x rfl ?_))))))
 exact ⟨i + 1, ⟨by omega, by omega⟩, [0, _], (Cov.cons' (t := 3) rfl (congrArg (fun v : Int => AV.pv (.int .i64 v)) (d8z hl ⟨h2, h3⟩).symm) (y3y 4 rfl Cov.nil)), cv, hv, hv, rfl⟩
end
section
theorem b0j (c : Bool) (n : Nd) (r : Int) : a1r Tryz.prog 61 [.agg (w5w c n), .pv (.int .i64 r)] (.tup [.agg (w5w true (w6w n r).1), .agg (p4p true (w6w n r).2.1), .pv (.bool (w6w n r).2.2)]) := by
 refine pX Tryz.f61 [.agg (w5w true (w6w n r).1), .agg (p4p true (w6w n r).2.1), .pv (.bool (w6w n r).2.2)] 14 ?_
 refine exR (u2u (id := 0) rfl rfl rfl (y6y (id := 1) y5y s9s rfl (y6y (id := 2) v3v a9u rfl (x0x rfl (x2x fun K1 hK1 => ?_)))))
 refine exR (x5x rfl y5y rfl rfl rfl (x9x rfl rfl rfl (q9q ..) (a1s rfl (x7x rfl ?_ ?_))))<;>intro hc2<;>try simp at hc2
 ·have fX : ¬ z7z n := a0k (by simpa using hc2)
  refine exR (rlB y5y s9s ?_)
  refine rlB v3v a9u ?_
  refine x3x rfl rfl y5y rfl rfl rfl rfl (x3x rfl rfl v3v rfl rfl rfl rfl (x0x rfl (x6x ⟨.inr rfl, ?_⟩)))
  (rw [e3h fX]; exact ⟨_, _, rfl, b5i (c6q (.cl rfl .nil))⟩)
 have fK : z7z n := a1o.1 (by simpa using hc2)
 have fS := fK.1
 have fB := q5q fS
 have fV := fS.2.2.2.2.2.1
 have fb := b8c fS
 refine x8x (hK1 _ _ (exR (x5x rfl y5y rfl rfl rfl ?_)))
 refine rlM [9, 10, 11] [_, _, _] (u0u c n fb) rfl rfl rfl ?_
 refine y6y (id := 3) y5y s9s rfl (x3x rfl rfl y5y rfl rfl rfl rfl (x2x fun K3 hK3 => ?_))
 refine exD (x1x 4 rfl rfl (z9z rfl rfl ?_ ?_))<;>intro hg4<;>try simp at hg4
 ·have fU : ¬ (n.up = true ∧ n.round + 1 ≤ r ∧ r ≤ 9999) := fun h => by have := h.1; simp_all
  refine x1x 7 rfl rfl ⟨by kernel_rfl, x7x rfl (fun hc10 => ?_) (fun hc10 => ?_)⟩
  rotate_left
  ·simp at hc10
  try simp at hc10
  refine exR (x5x rfl y5y rfl rfl rfl (rlB v3v a9u ?_))
  refine x3x rfl rfl y5y rfl rfl rfl rfl (x3x rfl rfl v3v rfl rfl rfl rfl (x0x rfl (x6x ⟨.inr rfl, ?_⟩)))
  (rw [d3l fK fU]; exact ⟨_, _, rfl, s6s rfl rfl rfl (c6q (.cl rfl .nil))⟩)
 have fUp : n.up = true := hg4
 refine x1x 3 rfl rfl (z1z rfl rfl ?_)
 refine a0y (.int .i64 (n.round + 1)) rfl rfl rfl (a9c rfl rfl (by have := fS.1.2.2.2.2.2.1; omega) (by have := fS.1.2.2.2.2.2.1; omega)) ?_
 refine z1z rfl rfl (x9x rfl rfl rfl (w0w ..) (z1z rfl rfl (x9x rfl rfl rfl (u7u ..) (x1x 2 rfl rfl ⟨by kernel_rfl, x7x rfl ?_ ?_⟩))))<;>intro j<;>try simp at j
 ·have fU : ¬ (n.up = true ∧ n.round + 1 ≤ r ∧ r ≤ 9999) := by (intro h; omega)
  refine exR (x5x rfl y5y rfl rfl rfl (rlB v3v a9u ?_))
  refine x3x rfl rfl y5y rfl rfl rfl rfl (x3x rfl rfl v3v rfl rfl rfl rfl (x0x rfl (x6x ⟨.inr rfl, ?_⟩)))
  (rw [d3l fK fU]; exact ⟨_, _, rfl, s6s rfl rfl rfl (c6q (.cl rfl .nil))⟩)
 have fU : n.up = true ∧ n.round + 1 ≤ r ∧ r ≤ 9999 := ⟨fUp, by omega⟩
 refine x8x (hK3 _ _ (exA 2 rfl rfl (z0z rfl rfl q1q rfl rfl rfl rfl rfl (by simp only [a1h]; rfl) ?_)))
 refine exR (y1y rfl y5y rfl rfl q1q rfl rfl (z0z rfl rfl q1q rfl rfl rfl rfl rfl (by simp only [a1h]; rfl) ?_))
 refine exD (x1x 6 rfl rfl (x9x rfl rfl rfl (b4n ..) (rlB v3v a9u ?_)))
 refine y6y (id := 4) v3v a9u rfl (x3x rfl rfl v3v rfl rfl rfl rfl ⟨by kernel_rfl, x2x fun K6 hK6 => ?_⟩)
 refine exR (x0x rfl (y0y (a2d 4 7 12 3 1 rfl rfl rfl rfl rfl (a2d 4 8 13 3 1 rfl rfl rfl rfl rfl ?_))))
 refine z2z (ι := Nat) (fun i γ1 => [(9, pI (i : Int))]) (fun i γ1 => [(12, ((γ1 12), .row 3 1 (((n.views.take i).map Vi.inc).map a8u))), (13, ((γ1 13), .row 3 1 (((n.views.take i).map Vi.version).map a8u))), (4, ((0 + 1), .box 79 [pI 3, pI n.id, pI 0, pI n.inc, pI 0, pI r, pI (b8d n), .ref 12 (γ1 12), .ref 13 (γ1 13), .pv (.slice none 0 0), .pv (.slice none 0 0)])), (5, ((γ1 5), .dead)), (6, ((γ1 6), .dead)), (7, ((γ1 7), .dead)), (8, ((γ1 8), .dead))]) (fun i => i ≤ 3) (fun i => 3 - i) (cK [2, 4, 5, 7, 8] rfl) (hK [0, 1, 2, 3, 9, 10, 11] rfl) 0 (by omega) [0, 0, 0, 0, 0, _, _, _, _, 0, 0, 0, _, _] cv (HE.row rfl (by rw [List.take_zero]; rfl) (HE.row rfl (by rw [List.take_zero]; rfl) (HE.box rfl rfl (HE.kill rfl (HE.kill rfl (HE.kill rfl (HE.kill rfl HE.nil))))))) rfl fun i γ1 hi => ?_
 refine x2x fun K7 hK7 => ?_
 refine exA 2 rfl rfl (y4y rfl ?_ ?_)<;>intro j<;>try simp at j
 ·obtain rfl : i = n.views.length := by omega
  rw [List.take_length]
  refine z4z (hK6 _ _ (exD (x1x 2 rfl rfl (x3x rfl rfl y5y rfl rfl rfl rfl (x3x rfl rfl v3v rfl rfl rfl rfl (x0x rfl ⟨by kernel_rfl, x6x ⟨.inr rfl, ?_⟩⟩))))))
  (rw [e3i fK fU, show d9b n r = { d9b n r with g := b8d n } from by rw [c1i fK]; rfl]; exact ⟨_, _, rfl, s6s (n := { n with round := r, low := 41 }) rfl rfl rfl (.agg rfl (.cl rfl (.cl rfl (.cl rfl (.cl rfl (.cl rfl (.cl rfl (.cl rfl (.ref rfl (Le.ow_map _ (fun _ => rfl) (fun _ => rfl)) (.ref rfl (Le.ow_map _ (fun _ => rfl) (fun _ => rfl)) (.le rfl .nil (.le rfl .nil .nil))))))))))) (.cl rfl .nil))⟩)
 obtain ⟨v, hv⟩ := gE n.views i
 refine x8x (hK7 _ _ (x2x fun K9 hK9 => ?_))
 refine y0y (exD (x1x 5 rfl rfl (y7y rfl rfl a0o rfl q8q rfl hv (x1x 2 rfl rfl (a9w (id := 5) q2q rfl q1q rfl rfl rfl rfl rfl ?_)))))
 refine u6u (zs := ((n.views.take i).map Vi.inc ++ [v.inc]).map a8u) rfl rfl q2q rfl q1q rfl rfl rfl rfl (by rfl) (w2w _ _ _) (by (simp only [a1c, a0m, a0u, a0v, a1z, T3]; omega)) ?_
 refine y1y rfl v3v rfl rfl q2q rfl rfl (z0z rfl rfl q2q rfl rfl rfl rfl rfl (by simp only [a1h]; rfl) ?_)
 refine ⟨by kernel_rfl, exH (x1x 5 rfl rfl (y7y rfl rfl a0o rfl q8q rfl hv (x1x 2 rfl rfl (a9w (id := 7) q2q rfl q1q rfl rfl rfl rfl rfl ?_))))⟩
 refine u6u (zs := ((n.views.take i).map Vi.version ++ [v.version]).map a8u) rfl rfl q2q rfl q1q rfl rfl rfl rfl (by rfl) (w2w _ _ _) (by (simp only [a1c, a0m, a0u, a0v, a1z, T3]; omega)) ?_
 refine y1y rfl v3v rfl rfl q2q rfl rfl (z0z rfl rfl q2q rfl rfl rfl rfl rfl (by simp only [a1h]; rfl) ?_)
 refine ⟨by kernel_rfl, hK9 _ _ (exG (x4x rfl (p5p rfl rfl rfl (x0x rfl ?_))))⟩
 exact ⟨i + 1, ⟨by omega, by omega⟩, [0, 0, 0, 0, 0, _, _, _, _, 0, 0, 0, _, _], (Cov.cons' (t := 9) rfl (by rw [u4u (by omega) (by omega)]; rfl) Cov.nil), (y3y 2 rfl (y3y 4 rfl (y3y 5 rfl (y3y 7 rfl (y3y 8 rfl Cov.nil))))), (HE.row rfl (by simp only [w1w hv, List.map_append, List.map_cons, List.map_nil]) (HE.row rfl (by simp only [w1w hv, List.map_append, List.map_cons, List.map_nil]) (HE.box rfl rfl (HE.kill rfl (HE.kill rfl (HE.kill rfl (HE.kill rfl HE.nil))))))), (y8y 0 rfl (y8y 1 rfl (y8y 2 rfl (y8y 3 rfl (y8y 9 rfl (y8y 10 rfl (y8y 11 rfl HE.nil))))))), rfl⟩
end
section
theorem b8m (c : Bool) (l : La) (u : Int) (hok : a6t l = true) : a1r Tryz.prog 25 [.agg (a0j c l), .pv (.int .i64 u)] (.tup [.agg (a0j true (c1l u l)), a2e true (c1m u l), a0t true (c6i u l)]) := by
 refine pX Tryz.f25 [.agg (a0j true (c1l u l)), a2e true (c1m u l), a0t true (c6i u l)] 8 ?_
 obtain ⟨h1, h2⟩ := a2p hok
 have hlb := e7p hok
 refine exR (u2u (id := 0) rfl rfl rfl (y6y (id := 1) v7v a9t rfl (x1x 2 rfl rfl (exR (z8z (id := 2) u8u rfl z6z rfl (x0x rfl (exR (z8z (id := 3) r3r rfl w7w rfl (x0x rfl (x2x fun K1 hK1 => ?_))))))))))
 refine exR (x5x rfl v7v rfl rfl rfl (x9x rfl rfl rfl (a4j ..) (a1s rfl (x7x rfl (fun hc2 => ?_) (fun hc2 => ?_)))))
 ·simp [hok] at hc2
 try simp at hc2
 refine x8x (hK1 _ _ (exR (x0x rfl (exA 2 rfl rfl (y6y (id := 4) a2c c7w rfl (x3x rfl rfl a2c rfl rfl rfl rfl (x2x fun K3 hK3 => ?_)))))))
 refine y0y ?_
 refine z2z (ι := Nat) (fun i γ1 => [(7, .ref 2 (γ1 2)), (8, .ref 3 (γ1 3)), (9, pI (i : Int))]) (fun i γ1 => [(2, ((γ1 2), .row 56 7 (((l.done.take i).flatMap Pa.sends).map v5v))), (3, ((γ1 3), .row 141 5 (((l.done.take i).flatMap Pa.outs).map a0w))), (4, ((0 + 1), .box 41 [pI (b4c l i).x, pI (b4c l i).y, pI (b4c l i).count])), (5, ((γ1 5), .dead)), (6, ((γ1 6), .dead))]) (fun i => i ≤ l.done.length ∧ (∀ (j : Nat) p, j < i → l.done[j]? = some p → p.ev.time < u)) (fun i => l.done.length - i) (cK [1, 2, 4, 10] rfl) (hK [0, 1, 7] rfl) 0 ⟨by omega, fun j p hj => by omega⟩ [0, 0, _, _, 0, _, _] cv (HE.row rfl (by rfl) (HE.row rfl (by rfl) (HE.box rfl rfl (HE.kill rfl (HE.kill rfl HE.nil))))) rfl fun i γ1 hi => ?_
 obtain ⟨k1, k2⟩ := hi
 refine x2x fun K4 hK4 => ?_
 refine exA 3 rfl rfl (z3z rfl r9r rfl (x1x 2 rfl rfl (z9z rfl rfl ?_ ?_)))<;>intro h<;>try simp at h
 ·have hcut : c9b u l.done = i := d1g k1 k2 (fun q hq => by rw [List.getElem?_eq_none (by omega)] at hq; cases hq)
  refine x1x 9 rfl rfl (x7x rfl (fun hc7 => ?_) (fun hc7 => ?_))
  ·simp [hok] at hc7
  try simp at hc7
  have hfs := b2k (f := Pa.sends) (m := 2) k1 fun p hp => (h2 p hp).1
  have hfo := b2k (f := Pa.outs) (m := 2) k1 fun p hp => (h2 p hp).2
  refine z4z (hK3 _ _ (exA 4 rfl rfl (z3z rfl r9r rfl (x9x rfl rfl rfl (a3l c l i l.done.length hlb.1 (by omega) hlb.1 hlb.2) ?_))))
  refine y6y (id := 7) v7v a9t rfl (x3x rfl rfl v7v rfl rfl rfl rfl (exA 2 rfl rfl (a1m rfl rfl a2c rfl rfl rfl rfl (a0q rfl) rfl ?_)))
  refine a0l 7 rfl rfl (fun _ => rfl) ?_
  refine a0l 8 rfl rfl (fun _ => rfl) ?_
  refine exD (x1x 2 rfl rfl (x9x rfl rfl rfl (a2g true _ (by omega)) ?_))
  refine x4x rfl (x9x rfl rfl rfl (a4v true _ (by omega)) ?_)
  refine x3x rfl rfl v7v rfl rfl rfl rfl (x1x 2 rfl rfl ⟨by kernel_rfl, x6x ⟨.inr rfl, ?_⟩⟩)
  subst hcut
  rw [show c1l u l = ⟨l.proc, b4c l (c9b u l.done), (l.done.take l.done.length).drop (c9b u l.done)⟩ from by rw [List.take_length]; rfl]
  exact ⟨_, _, rfl, .agg rfl (.cl rfl (.cl rfl (.cl rfl (.cl rfl (.cl rfl .nil))))) (.cl rfl (.cl rfl .nil))⟩
 obtain ⟨p, hp⟩ := gE l.done i
 have hpb := h2 p (List.mem_of_getElem? hp)
 refine x1x 3 rfl rfl (z1z rfl rfl (y7y rfl rfl r9r rfl a0g rfl hp (x1x 6 rfl rfl (y4y rfl ?_ ?_))))<;>intro hc6<;>try simp at hc6
 ·have hcut : c9b u l.done = i := by exact d1g k1 k2 (fun q hq => by rw [hp] at hq; cases hq; omega)
  have hfs := b2k (f := Pa.sends) (m := 2) k1 fun p hp => (h2 p hp).1
  have hfo := b2k (f := Pa.outs) (m := 2) k1 fun p hp => (h2 p hp).2
  refine z4z (hK3 _ _ (exA 4 rfl rfl (z3z rfl r9r rfl (x9x rfl rfl rfl (a3l c l i l.done.length hlb.1 (by omega) hlb.1 hlb.2) ?_))))
  refine y6y (id := 7) v7v a9t rfl (x3x rfl rfl v7v rfl rfl rfl rfl (exA 2 rfl rfl (a1m rfl rfl a2c rfl rfl rfl rfl (a0q rfl) rfl ?_)))
  refine a0l 7 rfl rfl (fun _ => rfl) ?_
  refine a0l 8 rfl rfl (fun _ => rfl) ?_
  refine exD (x1x 2 rfl rfl (x9x rfl rfl rfl (a2g true _ (by omega)) ?_))
  refine x4x rfl (x9x rfl rfl rfl (a4v true _ (by omega)) ?_)
  refine x3x rfl rfl v7v rfl rfl rfl rfl (x1x 2 rfl rfl ⟨by kernel_rfl, x6x ⟨.inr rfl, ?_⟩⟩)
  subst hcut
  rw [show c1l u l = ⟨l.proc, b4c l (c9b u l.done), (l.done.take l.done.length).drop (c9b u l.done)⟩ from by rw [List.take_length]; rfl]
  exact ⟨_, _, rfl, .agg rfl (.cl rfl (.cl rfl (.cl rfl (.cl rfl (.cl rfl .nil))))) (.cl rfl (.cl rfl .nil))⟩
 have hlt : p.ev.time < u := hc6
 have hfs := b2k (f := Pa.sends) (m := 2) (show i ≤ l.done.length by omega) fun p hp => (h2 p hp).1
 have hfo := b2k (f := Pa.outs) (m := 2) (show i ≤ l.done.length by omega) fun p hp => (h2 p hp).2
 refine x8x (hK4 _ _ (y0y (exA 3 rfl rfl (y7y rfl rfl r9r rfl a0g rfl hp (y1y rfl a0g rfl rfl a2c rfl rfl ?_)))))
 refine w4w (out := .agg (a4t p.after)) rfl a2c rfl ?_
 refine x3x rfl rfl a2c rfl rfl rfl rfl (exA 4 rfl rfl (y7y rfl rfl r9r rfl a0g rfl hp (x1x 2 rfl rfl ?_)))
 refine s4s (zs := ((l.done.take i).flatMap Pa.sends ++ p.sends).map v5v) rfl rfl u8u rfl z6z rfl rfl rfl (w3w (fun _ => rfl) _) (a9b _ _ _) (by (simp only [a1c, a0m, a0u, a0v, a1z, b2n, T56]; omega)) ?_
 refine x0x rfl (exA 4 rfl rfl (y7y rfl rfl r9r rfl a0g rfl hp (x1x 2 rfl rfl ?_)))
 refine s4s (zs := ((l.done.take i).flatMap Pa.outs ++ p.outs).map a0w) rfl rfl r3r rfl w7w rfl rfl rfl (w3w (fun _ => rfl) _) (a9b _ _ _) (by (simp only [a1c, a0m, a0u, a0v, a1z, b2n, T141]; omega)) ?_
 refine x0x rfl (exG (x4x rfl (z5z (b := 1) rfl rfl (by omega) (x0x rfl ?_))))
 exact ⟨i + 1, ⟨⟨by omega, fun j q hj hq => by by_cases e : j = i; (subst e; rw [hp] at hq; cases hq; exact hlt); exact k2 j q (by omega) hq⟩, by omega⟩, [0, 0, _, _, 0, _, _], cv, cv, (HE.row rfl (by rw [a5t hp]) (HE.row rfl (by rw [a5t hp]) (HE.box rfl (by rw [c1k hp]; rfl) (HE.kill rfl (HE.kill rfl HE.nil))))), hv, rfl⟩
end
end Go.Proofs.YtlgknoapdbpojaaGreat.Am
