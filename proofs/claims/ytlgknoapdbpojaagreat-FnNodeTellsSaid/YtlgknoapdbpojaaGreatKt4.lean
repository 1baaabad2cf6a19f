/- Part 4 of the texts that the proof of LawFnNodeTells leans on, merged by program. -/
import Derived.Test.YtlgknoapdbpojaaGreatKt3
set_option linter.unusedVariables false
set_option linter.unusedSimpArgs false
set_option maxHeartbeats 4000000
set_option autoImplicit true
set_option relaxedAutoImplicit true
namespace Go.Proofs.YtlgknoapdbpojaaGreat.Am
open Go Go.RowKit
section
theorem w3w (c : Bool) (n : Nd) : a0p Tryz.prog 46 [.agg (u0u c n)] (.pv (.bool (kb (y4y n)))) := by
 refine pX Tryz.f46 [.pv (.bool (kb (y4y n)))] 1 ?_
 have hpl := a4x n.id 4
 refine dv 1 ?_
 refine y2y (id := 0) rfl rfl rfl (dv 5 fun K K' => ?_)
 refine x0x rfl rfl rfl (y7y ..) (dc 2 (aS ?_ ?_))<;>intro hg2<;>try simp at hg2
 ·have hX : ¬ (0 ≤ n.id ∧ n.id ≤ 2) := by omega
  refine dv 40 ?_
  refine x3x rfl ?_ rfl
  exact congrArg (fun b : Bool => [AV.pv (.bool b)]) (a4p (fun h => by obtain ⟨⟨q1, q2, q3, q4, q5, q6, q7, q8, q9⟩, q0⟩ := h; exact hX q1.1))
 have f1 : 0 ≤ n.id ∧ n.id ≤ 2 := hg2
 refine dv 2 ?_
 refine x0x rfl rfl rfl (z6z ..) (dv 0 ?_)
 refine x0x rfl rfl rfl (y7y ..) (dc 3 (aS ?_ ?_))<;>intro hg3<;>try simp at hg3
 ·have hX : ¬ (1 ≤ n.inc ∧ n.inc ≤ 9999) := by omega
  refine dv 33 ?_
  refine x3x rfl ?_ rfl
  exact congrArg (fun b : Bool => [AV.pv (.bool b)]) (a4p (fun h => by obtain ⟨⟨q1, q2, q3, q4, q5, q6, q7, q8, q9⟩, q0⟩ := h; exact hX q1.2.1))
 have f2 : 1 ≤ n.inc ∧ n.inc ≤ 9999 := hg3
 refine dv 2 ?_
 refine x0x rfl rfl rfl (y7y ..) (dc 3 (aS ?_ ?_))<;>intro hg4<;>try simp at hg4
 ·have hX : ¬ (0 ≤ n.g ∧ n.g ≤ 41) := by omega
  refine dv 27 ?_
  refine x3x rfl ?_ rfl
  exact congrArg (fun b : Bool => [AV.pv (.bool b)]) (a4p (fun h => by obtain ⟨⟨q1, q2, q3, q4, q5, q6, q7, q8, q9⟩, q0⟩ := h; exact hX q1.2.2.1))
 have f3 : 0 ≤ n.g ∧ n.g ≤ 41 := hg4
 refine dv 2 ?_
 refine x0x rfl rfl rfl (z6z ..) (dv 0 ?_)
 refine x0x rfl rfl rfl (y7y ..) (dc 3 (aS ?_ ?_))<;>intro hg5<;>try simp at hg5
 ·have hX : ¬ (0 ≤ n.led ∧ n.led ≤ 9999) := by omega
  refine dv 20 ?_
  refine x3x rfl ?_ rfl
  exact congrArg (fun b : Bool => [AV.pv (.bool b)]) (a4p (fun h => by obtain ⟨⟨q1, q2, q3, q4, q5, q6, q7, q8, q9⟩, q0⟩ := h; exact hX q1.2.2.2.1))
 have f4 : 0 ≤ n.led ∧ n.led ≤ 9999 := hg5
 refine dv 2 ?_
 refine x0x rfl rfl rfl (a3n ..) (dv 0 ?_)
 refine x0x rfl rfl rfl (a3i ..) (dc 3 (aS ?_ ?_))<;>intro hg6<;>try simp at hg6
 ·have hX : ¬ a7o okE a2e n.kept 100 = true := by simpa using hg6
  refine dv 13 ?_
  refine x3x rfl ?_ rfl
  exact congrArg (fun b : Bool => [AV.pv (.bool b)]) (a4p (fun h => by obtain ⟨⟨q1, q2, q3, q4, q5, q6, q7, q8, q9⟩, q0⟩ := h; exact hX q2))
 have f5 : a7o okE a2e n.kept 100 = true := hg6
 refine dv 2 ?_
 refine x0x rfl rfl rfl (a6y ..) (dc 3 (aS ?_ ?_))<;>intro hg7<;>try simp at hg7
 ·have hX : ¬ a7o okO b1h n.outs 96 = true := by simpa using hg7
  refine dv 7 ?_
  refine x3x rfl ?_ rfl
  exact congrArg (fun b : Bool => [AV.pv (.bool b)]) (a4p (fun h => by obtain ⟨⟨q1, q2, q3, q4, q5, q6, q7, q8, q9⟩, q0⟩ := h; exact hX q3))
 have f6 : a7o okO b1h n.outs 96 = true := hg7
 refine dv 1 ?_
 refine x0x rfl rfl rfl (c2k ..) (dc 2 (aI ?_ ?_))<;>intro hc8<;>try simp at hc8
 ·try have hX : ¬ c6j n := a0x (by simpa using hc8)
  refine dv 3 ?_
  refine x3x rfl ?_ rfl
  exact congrArg (fun b : Bool => [AV.pv (.bool b)]) (a4p (fun h => by obtain ⟨⟨q1, q2, q3, q4, q5, q6, q7, q8, q9⟩, q0⟩ := h; exact hX ⟨q6, q7, q1.2.2.2.2.1, q1.2.2.2.2.2.1, q1.2.2.2.2.2.2, q9⟩))
 have fF : c6j n := a0r.1 (by simpa using hc8)
 have fo96 := (q1q f6).1
 refine dv 1 ?_
 refine p9p (ι := Unit) (fun _i γ1 => []) (fun _i γ1 => []) (fun _i => ∀ (i : Nat) a, n.outs[i]? = some a → a.time < n.g) (x8x 1 rfl Cov.nil) (w9w 0 rfl HE.nil) ?_ fun _i γ1 hi => ?_
 ·refine dc 6 (aS ?_ ?_)<;>intro hg9<;>try simp at hg9
  ·have g0 : n.outs.length = 0 := by (rw [hg9]; rfl)
   have fO : ∀ (i : Nat) a, n.outs[i]? = some a → a.time < n.g := fun i a ha => by have := (List.getElem?_eq_some_iff.1 ha).1; omega
   refine dv 13 ?_
   try have fO : ∀ (i : Nat) a, n.outs[i]? = some a → a.time < n.g := c9f f6 ho (by omega)
   refine dv 1 ?_
   exact ⟨(), fO, [], x6x, x6x, x4x, x4x, rfl⟩
  have g0 : 0 < n.outs.length := by omega
  obtain ⟨o, ho⟩ := gE n.outs (n.outs.length - 1)
  refine dv 5 ?_
  refine r0r (b := 1) rfl rfl (by omega) (by omega) (dc 7 (aS ?_ ?_))<;>intro u<;>try simp at u
  ·try have fO : ∀ (i : Nat) a, n.outs[i]? = some a → a.time < n.g := c9f f6 ho (by omega)
   refine dv 1 ?_
   exact ⟨(), fO, [], x6x, x6x, x4x, x4x, rfl⟩
  have hX : ¬ o.time < n.g := by omega
  refine dv 3 ?_
  refine x3x rfl ?_ rfl
  exact congrArg (fun b : Bool => [AV.pv (.bool b)]) (a4p (fun h => by obtain ⟨⟨q1, q2, q3, q4, q5, q6, q7, q8, q9⟩, q0⟩ := h; exact hX (q4 _ _ ho)))
 ·try dsimp only [b1n, b1o]
  have fO := hi
  refine dv 3 ?_
  refine x0x rfl rfl rfl (b2o ..) (dc 9 (fun K K' => aI ?_ ?_))<;>intro u<;>try simp at u
  ·refine dv 3 ?_
   refine x3x rfl ?_ rfl
   exact congrArg (fun b : Bool => [AV.pv (.bool b)]) (a4p (fun h => by obtain ⟨⟨q1, q2, q3, q4, q5, q6, q7, q8, q9⟩, q0⟩ := h; omega))
  have fL : n.lanes.length = (p4p n.id 4).length := by omega
  refine dv 5 fun K K' => ?_
  refine x5x (ι := Nat) (fun i γ2 => [(4, pI (i : Int))]) (fun i γ2 => []) (fun i => i ≤ (p4p n.id 4).length ∧ c7o n.lanes (fun j l => (p4p n.id 4)[j]? = some l.proc ∧ a6e l = true) i) (fun i => (p4p n.id 4).length - i) (r3r [1, 3] rfl) (w9w 0 rfl HE.nil) 0 ⟨by omega, a1f⟩ [] x6x x4x rfl fun i γ2 hi => ?_
  obtain ⟨b1, b2⟩ := hi
  refine dc 6 (fun K K' => aI ?_ ?_)<;>intro u<;>try simp at u
  ·obtain ⟨l, hl⟩ := gE n.lanes i
   obtain ⟨p, hp⟩ := gE (p4p n.id 4) i
   refine dv 9 fun K K' => ?_
   refine x0x rfl rfl rfl (a3o ..) (dc 2 (aS ?_ ?_))<;>intro hg18<;>try simp at hg18
   ·have hX : ¬ a6e l = true := by simpa using hg18
    refine dv 16 ?_
    refine x3x rfl ?_ rfl
    exact congrArg (fun b : Bool => [AV.pv (.bool b)]) (a4p (fun h => by obtain ⟨⟨q1, q2, q3, q4, q5, q6, q7, q8, q9⟩, q0⟩ := h; exact hX (q8 _ _ hl).2))
   have hlo : a6e l = true := hg18
   refine dc 13 (aS ?_ ?_)<;>intro hc19<;>try simp at hc19
   ·have hpe : l.proc = p := hc19
    refine dv 3 ?_
    refine x7x (b := 1) rfl rfl (by omega) (dv 1 ?_)
    exact ⟨i + 1, ⟨⟨by omega, r5r b2 hl ⟨by rw [hp, hpe], hlo⟩⟩, by omega⟩, [], x6x, x6x, x4x, x4x, rfl⟩
   try have hX : ¬ l.proc = p := hc19
   refine dv 3 ?_
   refine x3x rfl ?_ rfl
   exact congrArg (fun b : Bool => [AV.pv (.bool b)]) (a4p (fun h => by obtain ⟨⟨q1, q2, q3, q4, q5, q6, q7, q8, q9⟩, q0⟩ := h; have := (q8 _ _ hl).1; rw [hp] at this; exact hX (Option.some.inj this).symm))
  have fN : e3l n := a2v b2 (by omega)
  refine dv 5 fun K K' => ?_
  refine x5x (ι := Nat) (fun j γ3 => [(5, pI (j : Int))]) (fun j γ3 => []) (fun j => j ≤ (p4p n.id 4).length ∧ c7o n.lanes (fun j l => ∀ p, (p4p n.id 4)[j]? = some p → l.done.length ≤ same l.done (a1g n p) ∧ (a1g n p).length ≤ 100) j) (fun j => (p4p n.id 4).length - j) (r3r [1, 3] rfl) (w9w 0 rfl HE.nil) 0 ⟨by omega, a1f⟩ [] x6x x4x rfl fun j γ3 hi => ?_
  obtain ⟨d1, d2⟩ := hi
  refine dc 6 (fun K K' => aS ?_ ?_)<;>intro u<;>try simp at u
  ·have fC := fun (i : Nat) p l (a : (p4p n.id 4)[i]? = some p) (b : n.lanes[i]? = some l) => a2v d2 (by omega) i l b p a
   refine dv 4 ?_
   refine x3x rfl ?_ rfl
   exact congrArg (fun b : Bool => [AV.pv (.bool b)]) (d8z ⟨⟨⟨f1, f2, f3, f4, fF.2.2.1, fF.2.2.2.1, fF.2.2.2.2.1⟩, f5, f6, fO, fL, fF.1, fF.2.1, fN, fF.2.2.2.2.2⟩, fC⟩)
  obtain ⟨l, hl⟩ := gE n.lanes j
  obtain ⟨p, hp⟩ := gE (p4p n.id 4) j
  obtain ⟨hdl, _⟩ := a2q (fN j l hl).2
  refine dv 15 fun K K' => ?_
  refine x0x rfl rfl rfl (a3y c n p (by have := c6k f5 (by omega) fN; have := c6l fF.1 fF.2.1 fF.2.2.2.2.2; omega) (by omega) fF.1) ?_
  refine x0x rfl rfl rfl (a8w ..) (dc 9 (aS ?_ ?_))<;>intro u<;>try simp at u
  ·refine dv 14 ?_
   refine x3x rfl ?_ rfl
   exact congrArg (fun b : Bool => [AV.pv (.bool b)]) (a4p (fun h => by obtain ⟨⟨q1, q2, q3, q4, q5, q6, q7, q8, q9⟩, q0⟩ := h; have := q0 _ _ _ hp hl; omega))
  refine dv 6 ?_
  refine x0x rfl rfl rfl (a3y c n p (by have := c6k f5 (by omega) fN; have := c6l fF.1 fF.2.1 fF.2.2.2.2.2; omega) (by omega) fF.1) ?_
  refine dv 1 ?_
  refine x0x rfl rfl rfl (a3n ..) (dc 2 (aS ?_ ?_))<;>intro u<;>try simp at u
  ·refine dv 3 ?_
   refine x7x (b := 1) rfl rfl (by omega) (dv 1 ?_)
   exact ⟨j + 1, ⟨⟨by omega, r5r d2 hl (fun p2 hp2 => by rw [hp] at hp2; cases hp2; omega)⟩, by omega⟩, [], x6x, x6x, x4x, x4x, rfl⟩
  refine dv 3 ?_
  refine x3x rfl ?_ rfl
  exact congrArg (fun b : Bool => [AV.pv (.bool b)]) (a4p (fun h => by obtain ⟨⟨q1, q2, q3, q4, q5, q6, q7, q8, q9⟩, q0⟩ := h; have := q0 _ _ _ hp hl; omega))
end
section
theorem a3j (c : Bool) (n : Nd) (t : Nat) (ht : t < 3) (hk3 : n.known.length = 3) (hs : (a0b n).length ≤ 5000000) (hlen : n.lanes.length ≤ 1048576) : a0p Tryz.prog 135 [.agg (u0u c n), .pv (.int .i64 (t : Int))] (a0g true (a1q n (t : Int))) := by
 refine pX Tryz.f135 [a0g true (a1q n (t : Int))] 5 ?_
 obtain ⟨kn, hkn⟩ := gE n.known t
 rw [c1i hkn]
 refine dv 1 ?_
 refine y2y (id := 0) rfl rfl rfl (dv 3 ?_)
 refine rlM [4] [_] (b4g c n (by omega) hlen) rfl rfl rfl ?_
 refine dv 1 ?_
 refine r1r 5 rfl rfl (fun _ => rfl) ?_
 refine dv 1 ?_
 refine x9x (id := 1) v2v rfl z3z rfl (dv 5 fun K K' => ?_)
 refine x5x (ι := Nat) (fun j γ1 => [(6, .ref 1 (γ1 1)), (7, pI (j : Int))]) (fun j γ1 => [(1, ((γ1 1), .row 56 7 ((((a0b n).take j).filter (a6i (t : Int) kn)).map z2z))), (2, ((γ1 2), .dead)), (3, ((γ1 3), .dead))]) (fun j => j ≤ (a0b n).length) (fun j => (a0b n).length - j) (r3r [1, 2, 5] rfl) (a1c [0, 4] rfl) 0 (by omega) [0, _, _, _] x6x (HE.row rfl (by rw [List.take_zero]; rfl) (HE.kill rfl (HE.kill rfl HE.nil))) rfl fun j γ1 hi => ?_
 refine dc 6 (fun K K' => aS ?_ ?_)<;>intro h<;>try simp at h
 ·obtain rfl : j = (a0b n).length := by omega
  rw [List.take_length]
  refine dv 1 ?_
  refine r1r 6 rfl rfl (fun _ => rfl) ?_
  refine dv 2 ?_
  refine x0x rfl rfl rfl (a1d true ((a0b n).filter (a6i (t : Int) kn)) (Nat.le_trans (List.length_filter_le _ _) (by omega))) ?_
  refine dv 2 ?_
  refine x3x rfl rfl rfl
 obtain ⟨p, hp⟩ := gE (a0b n) j
 have hfl : (((a0b n).take j).filter (a6i (t : Int) kn)).length ≤ 5000000 := Nat.le_trans (List.length_filter_le _ _) (by rw [List.length_take]; omega)
 refine dv 9 fun K K' => ?_
 refine x0x rfl rfl rfl (a1h ..) (dc 3 (aS ?_ ?_))<;>intro hg5<;>try simp at hg5
 ·have hw : ¬ a6i (t : Int) kn p = true := by simp only [a6i, decide_eq_true_eq]; omega
  refine dv 12 ?_
  try have hw : ¬ a6i (t : Int) kn p = true := by simp only [a6i, decide_eq_true_eq]; omega
  refine dv 3 ?_
  refine u6u rfl rfl rfl (dv 1 ?_)
  exact ⟨j + 1, ⟨by omega, by omega⟩, [0, _, _, _], (x8x 6 rfl (Cov.cons' (t := 7) rfl (by rw [y1y (by omega) (by omega)]; rfl) Cov.nil)), x6x, (HE.row rfl (by rw [r6r hp]; rw [if_neg hw, List.append_nil]) (HE.kill rfl (HE.kill rfl HE.nil))), x4x, rfl⟩
 have hw1 : s4s p.to = (t : Int) := hg5
 refine dc 12 (aS ?_ ?_)<;>intro h<;>try simp at h
 ·try have hw : ¬ a6i (t : Int) kn p = true := by simp only [a6i, decide_eq_true_eq]; omega
  refine dv 3 ?_
  refine u6u rfl rfl rfl (dv 1 ?_)
  exact ⟨j + 1, ⟨by omega, by omega⟩, [0, _, _, _], (x8x 6 rfl (Cov.cons' (t := 7) rfl (by rw [y1y (by omega) (by omega)]; rfl) Cov.nil)), x6x, (HE.row rfl (by rw [r6r hp]; rw [if_neg hw, List.append_nil]) (HE.kill rfl (HE.kill rfl HE.nil))), x4x, rfl⟩
 have hw : a6i (t : Int) kn p = true := by simp only [a6i, decide_eq_true_eq]; omega
 refine dv 6 ?_
 refine y5y (id := 2) v2v rfl z3z rfl rfl rfl rfl rfl rfl ?_
 refine y6y (zs := (((a0b n).take j).filter (a6i (t : Int) kn) ++ [p]).map z2z) rfl rfl v2v rfl z3z rfl rfl rfl rfl (by rfl) (z8z _ _ _) (by (simp only [a0f, r7r, s3s, s6s, a0v, a3d, T56] at *; omega)) ?_
 refine dv 3 ?_
 refine u6u rfl rfl rfl (dv 1 ?_)
 exact ⟨j + 1, ⟨by omega, by omega⟩, [0, _, _, _], (x8x 6 rfl (Cov.cons' (t := 7) rfl (by rw [y1y (by omega) (by omega)]; rfl) Cov.nil)), x6x, (HE.row rfl (by rw [r6r hp]; rw [if_pos hw]) (HE.kill rfl (HE.kill rfl HE.nil))), x4x, rfl⟩
end
section
theorem c2l (c : Bool) (n : Nd) : a0p Tryz.prog 49 [.agg (u0u c n)] (v8v true (c1l n)) := by
 refine pX Tryz.f49 [v8v true (c1l n)] 8 ?_
 refine dv 1 ?_
 refine y2y (id := 0) rfl rfl rfl (dv 2 ?_)
 refine x9x (id := 1) p8p rfl w2w rfl (dv 4 fun K K' => ?_)
 refine x0x rfl rfl rfl (w3w ..) (dc 2 (aS ?_ ?_))<;>intro hg2<;>try simp at hg2
 ·have fX : ¬ (y4y n ∧ n.up = true) := fun h => a0x (by simpa using hg2) h.1
  refine dv 8 ?_
  (rw [d9e fX]; exact a2t (l := ([] : List Wo)) rfl rfl (fun _ => rfl) rfl)
 have fK : y4y n := a0r.1 (by simpa using hg2)
 have fS := fK.1
 have fB := v6v fS
 have fV := fS.2.2.2.2.2.1
 refine dc 4 (aI ?_ ?_)<;>intro hc3<;>try simp at hc3
 ·have fX : ¬ (y4y n ∧ n.up = true) := by (intro h; simp_all; done)
  refine dv 4 ?_
  (rw [d9e fX]; exact a2t (l := ([] : List Wo)) rfl rfl (fun _ => rfl) rfl)
 have fU : n.up = true := hc3
 refine dv 5 fun K K' => ?_
 refine x5x (ι := Nat) (fun i γ1 => [(3, .ref 1 (γ1 1)), (4, pI (i : Int))]) (fun i γ1 => [(1, ((γ1 1), .row 79 11 ((a5y n i).map (u7u true)))), (2, ((γ1 2), .dead)), (3, ((γ1 3), .dead))]) (fun i => i ≤ 3) (fun i => 3 - i) (x8x 1 rfl Cov.nil) (a1c [0, 4, 5, 6, 7] rfl) 0 (by omega) [0, _, _, _] x6x (HE.row rfl (by rfl) (HE.kill rfl (HE.kill rfl HE.nil))) rfl fun i γ1 hi => ?_
 refine dc 4 (fun K K' => aI ?_ ?_)<;>intro j<;>try simp at j
 ·refine dc 8 (fun K K' => aS ?_ ?_)<;>intro hc8<;>try simp at hc8
  ·have hto : (i : Int) = n.id := hc8
   refine dv 1 ?_
   skip
   refine dv 2 ?_
   refine u6u rfl rfl rfl (dv 1 ?_)
   exact ⟨i + 1, ⟨by omega, by omega⟩, [0, _, _, _], (x8x 3 rfl (Cov.cons' (t := 4) rfl (by rw [y1y (by omega) (by omega)]; rfl) Cov.nil)), x6x, (HE.row rfl (by rw [d3n hto]) (HE.kill rfl (HE.kill rfl HE.nil))), x4x, rfl⟩
  have hto : ¬ (i : Int) = n.id := hc8
  have htl := c9g fS (i : Int)
  have htn := c1k n i
  refine dv 13 ?_
  refine x0x rfl rfl rfl (a3j c n i (by omega) fS.2.2.2.2.2.2.1 (by have := a5j fS; omega) (by omega)) ?_
  refine rlB w2w a9k ?_
  refine y5y (id := 2) p8p rfl w2w rfl rfl rfl rfl rfl rfl ?_
  refine y6y (zs := (a5y n i).map (u7u true) ++ [[pI (b2d n (i : Int)).kind, pI (b2d n (i : Int)).from', pI (b2d n (i : Int)).to, pI (b2d n (i : Int)).inc, pI (b2d n (i : Int)).version, pI (b2d n (i : Int)).round, pI (b2d n (i : Int)).g, .pv (.slice none 0 0), .pv (.slice none 0 0), a0g true (a1q n (i : Int)), .pv (.slice none 0 0)]]) rfl rfl p8p rfl w2w rfl rfl rfl rfl rfl rfl (by (simp only [a0f, r7r, s3s, s6s, a0v, a3d, T79] at *; omega)) ?_
  refine dv 1 ?_
  refine e5x 1 rfl (LeLs.snoc (x' := u7u true (b2d n (i : Int))) (.same (.same (.same (.same (.same (.same (.same (.le rfl .nil rfl (.le rfl .nil rfl (.same (.le rfl .nil rfl .nil))))))))))) _) ?_
  refine dv 2 ?_
  refine u6u rfl rfl rfl (dv 1 ?_)
  exact ⟨i + 1, ⟨by omega, by omega⟩, [0, _, _, _], (x8x 3 rfl (Cov.cons' (t := 4) rfl (by rw [y1y (by omega) (by omega)]; rfl) Cov.nil)), x6x, (HE.row rfl (by (rw [d3m hto, List.map_append]; rfl)) (HE.kill rfl (HE.kill rfl HE.nil))), x4x, rfl⟩
 obtain rfl : i = 3 := by omega
 have htn := c1k n 3
 refine dc 6 (fun K K' => aS ?_ ?_)<;>intro hc10<;>try simp at hc10
 ·have h0 : n.id = 0 := hc10
  refine dv 1 ?_
  skip
  refine dv 4 ?_
  (rw [e8h ⟨fK, fU⟩ h0]; exact a2t rfl rfl (fun _ => rfl) rfl)
 have h0 : ¬ n.id = 0 := hc10
 refine dv 6 ?_
 refine x9x (id := 4) a0l rfl w6w rfl (dv 2 ?_)
 refine a1i v7v (zs := (n.outs).map r9r) rfl rfl a0l rfl w6w rfl rfl rfl (z9z (fun _ => rfl) _) rfl (by (simp only [a0f, r7r, s3s, s6s, a0v, a3d, T141] at *; omega)) (Le.ow_map _ (fun _ => rfl) (fun _ => rfl)) ?_
 refine rlB w2w a9k ?_
 refine y5y (id := 6) p8p rfl w2w rfl rfl rfl rfl rfl rfl ?_
 refine y6y (zs := (a5y n 3).map (u7u true) ++ [[pI (c1j n).kind, pI (c1j n).from', pI (c1j n).to, pI (c1j n).inc, pI (c1j n).version, pI (c1j n).round, pI (c1j n).g, .pv (.slice none 0 0), .pv (.slice none 0 0), .pv (.slice none 0 0), s0s true n.outs]]) rfl rfl p8p rfl w2w rfl rfl rfl rfl rfl rfl (by (simp only [a0f, r7r, s3s, s6s, a0v, a3d, T79] at *; omega)) ?_
 refine dv 1 ?_
 (refine e5x 1 rfl (LeLs.snoc (x' := u7u true (c1j n)) (.same (.same (.same (.same (.same (.same (.same (.le rfl .nil rfl (.le rfl .nil rfl (.le rfl .nil rfl (.same .nil))))))))))) _) ?_; refine b1w 1 (xs' := (a5y n 3 ++ [c1j n]).map (u7u true)) rfl (by rw [List.map_append]; rfl) ?_)
 refine dv 4 ?_
 (rw [e8i ⟨fK, fU⟩ h0]; exact a2t rfl rfl (fun _ => rfl) rfl)
end
section
def a8x (l : List Ev) : List (Value × AV) := (p0p l).map fun k => (c2y (evN k), pI (l.count k : Nat))
def a3t (l : List Ev) (e : Ev) : Nat := (a6h (p0p l) e).getD (p0p l).length
def b5o (l : List Ev) (e : Ev) : List (Value × AV) := if e ∈ l then a8x l else a8x l ++ [(c2y (evN e), pI (l.count e : Nat))]
theorem a1s (l : List Ev) : (a8x l).map (·.1) = (p0p l).map fun k => c2y (evN k) := by
 rw [a8x, List.map_map]; rfl
variable {l : List Ev} {e : Ev}
theorem d4o {j : Nat} (h : a6h (p0p l) e = some j) : (a8x l)[j]? = some (c2y (evN e), pI (l.count e : Nat)) := by
 rw [a8x, List.getElem?_map, b4x h]; rfl
theorem c7h (h : a6h (p0p l) e = none) : e ∉ l ∧ l.count e = 0 := by
 have := b1v.1 h
 rw [a1m] at this
 exact ⟨this, List.count_eq_zero.2 this⟩
variable {tt : TT} {et : TypeId} {S : TS}
theorem b8l (hs : tt et = some S) (hz : b7t S = pI 0) (l : List Ev) (e : Ev) : (∃ j kv, a6h (p0p l) e = some j ∧ (a8x l)[j]? = some (kv, pI (l.count e : Nat))) ∨ (a6h (p0p l) e = none ∧ ∃ S, tt et = some S ∧ pI (l.count e : Nat) = b7t S) := by
 cases h : a6h (p0p l) e with
 | some j => exact .inl ⟨j, _, rfl, d4o h⟩
 | none => exact .inr ⟨rfl, S, hs, by rw [hz, (c7h h).2]; rfl⟩
theorem a4g (hs : tt et = some S) (hz : b7t S = pI 0) (l : List Ev) (e : Ev) :
  (a6h (p0p l) e = some (a3t l e) ∧ (a8x l)[a3t l e]? = some (c2y (evN e), pI (l.count e : Nat)) ∧ b5o l e = a8x l) ∨
   (a6h (p0p l) e = none ∧ a3t l e = (a8x l).length ∧ b5o l e = a8x l ++ [(c2y (evN e), pI (l.count e : Nat))] ∧ ∃ S, tt et = some S ∧ pI (l.count e : Nat) = b7t S) := by
 cases h : a6h (p0p l) e with
 | some j =>
  have hm : e ∈ l := by
   rw [← a1m]; exact List.mem_of_getElem? (b4x h)
  have hp : a3t l e = j := by rw [a3t, h]; rfl
  exact .inl ⟨by rw [hp], by rw [hp]; exact d4o h, if_pos hm⟩
 | none =>
  have hn := c7h h
  exact .inr ⟨rfl, by rw [a3t, h, a8x, List.length_map]; rfl, if_neg hn.1, S, hs, by rw [hz, hn.2]; rfl⟩
theorem a1t (l : List Ev) (e : Ev) : (b5o l e)[a3t l e]? = some (c2y (evN e), pI (l.count e : Nat)) := by
 rcases a4g (tt := fun _ => some ⟨.oth, 1, 8, [.int .i64 0]⟩) (et := 0) rfl rfl l e with ⟨h1, h2, h3⟩ | ⟨h1, h2, h3, _⟩
 ·rw [h3]; exact h2
 ·rw [h3, h2, List.getElem?_append_right (Nat.le_refl _), Nat.sub_self]; rfl
def e4z (l : List Ev) (e : Ev) : List Ev := if e ∈ l then p0p l else p0p l ++ [e]
theorem b3k (l : List Ev) (e : Ev) : (b5o l e).map (·.1) = (e4z l e).map fun k => c2y (evN k) := by
 unfold b5o e4z
 split
 ·exact a1s l
 ·rw [List.map_append, List.map_append, a1s]; rfl
theorem d0e {κ : Type} [DecidableEq κ] {k : κ} : ∀ {ks : List κ}, a6h ks k = none → a6h (ks ++ [k]) k = some ks.length
 | [], _ => by simp [a6h]
 | a :: r, h => by
  simp only [a6h] at h
  split at h
  ·cases h
  ·rename_i hne
   simp only [List.cons_append, a6h, if_neg hne, List.length_cons]
   rw [d0e (by simpa using h)]; rfl
theorem b3l (l : List Ev) (e : Ev) : (∃ j kv, a6h (e4z l e) e = some j ∧ (b5o l e)[j]? = some (kv, pI (l.count e : Nat))) ∨ (a6h (e4z l e) e = none ∧ ∃ S, tt et = some S ∧ pI (l.count e : Nat) = b7t S) := by
 refine .inl ⟨a3t l e, _, ?_, a1t l e⟩
 unfold e4z
 cases h : a6h (p0p l) e with
 | some j =>
  have hm : e ∈ l := by rw [← a1m]; exact List.mem_of_getElem? (b4x h)
  rw [if_pos hm, a3t, h]; rfl
 | none => rw [if_neg (c7h h).1, d0e h, a3t, h]; rfl
theorem a2n (l : List Ev) (e : Ev) : (b5o l e).set (a3t l e) (c2y (evN e), pI ((l.count e + 1 : Nat) : Int)) = a8x (l ++ [e]) := by
 have hc : ∀ k, k ≠ e → (l ++ [e]).count k = l.count k := fun k hk => by
  rw [List.count_append, List.count_singleton]
  simp [Ne.symm hk]
 have hce : (l ++ [e]).count e = l.count e + 1 := by
  rw [List.count_append, List.count_singleton]; simp
 by_cases hm : e ∈ l
 ·have ho : p0p (l ++ [e]) = p0p l := by rw [b0j, if_pos ((a1m e l).2 hm)]
  obtain ⟨j, hj⟩ := c8g ((a1m e l).2 hm)
  have hp : a3t l e = j := by rw [a3t, hj]; rfl
  have hg := b4x hj
  rw [b5o, if_pos hm, hp, a8x, a8x, ho]
  apply List.ext_getElem?
  intro i
  rw [List.getElem?_set, List.getElem?_map, List.length_map]
  by_cases hi : j = i
  ·subst hi
   rw [if_pos rfl, if_pos (List.getElem?_eq_some_iff.1 hg).1, List.getElem?_map, hg]
   simp only [Option.map_some, hce]
  ·rw [if_neg hi, List.getElem?_map]
   cases hk : (p0p l)[i]? with
   | none => rfl
   | some k =>
    have hne : k ≠ e := fun h => by
     subst h
     exact hi ((List.getElem?_inj (List.getElem?_eq_some_iff.1 hg).1 (b8x l)).1 (hg.trans hk.symm))
    simp only [Option.map_some, hc k hne]
 ·have h0 : a6h (p0p l) e = none := b1v.2 (by rw [a1m]; exact hm)
  have ho : p0p (l ++ [e]) = p0p l ++ [e] := by rw [b0j, if_neg (by rw [a1m]; exact hm)]
  have hp : a3t l e = (a8x l).length := by rw [a3t, h0, a8x, List.length_map]; rfl
  rw [b5o, if_neg hm, hp, List.set_append_right _ _ (Nat.le_refl _), Nat.sub_self, List.set_cons_zero, a8x, a8x, ho, List.map_append]
  congr 1
  ·refine List.map_congr_left fun k hk => ?_
   rw [hc k (fun h => hm ((a1m e l).1 (h ▸ hk)))]
  ·simp only [List.map_cons, List.map_nil, hce]
theorem d2a : (l ++ [e]).count e = 1 → b3p a2e (p0p (l ++ [e])) = b9a a2e (b3p a2e (p0p l)) e := fun h => by
 have : e ∉ l := by
  rw [List.count_append, List.count_singleton] at h
  exact List.count_eq_zero.1 (by simpa using h)
 rw [b0j, if_neg (by rw [a1m]; exact this), d5m]
theorem d2b : ¬ (l ++ [e]).count e = 1 → p0p (l ++ [e]) = p0p l := fun h => by
 have : e ∈ l := by
  rw [List.count_append, List.count_singleton] at h
  refine Classical.byContradiction fun hn => h ?_
  rw [List.count_eq_zero.2 hn]; simp
 rw [b0j, if_pos (by rw [a1m]; exact this)]
end
section
theorem a6c (l : List Ev) (x : Ev) (hl : l.length ≤ 1000000000) : Meth Tryz.prog 275 2 [0] [.ptr 0 0 0, .agg (z2z x)] [(0, (0, .box 303 [.ref 1 0, .fn (.func 127) [] []])), (1, (0, .row 153 7 ((l).map z2z)))] (.tup []) [(0, (0, .box 303 [.ref 1 0, .fn (.func 127) [] []])), (1, (0, .row 153 7 ((b9a a2e l x).map z2z)))] := by
 refine mX Tryz.f275 [] 2 3 fun γ => ?_
 refine dv 1 ?_
 refine y2y (id := 2) rfl rfl rfl (dv 7 ?_)
 refine y5y (id := 3) a2b rfl q0q rfl rfl rfl rfl rfl rfl (y6y rfl rfl a2b rfl q0q rfl rfl rfl rfl (by rfl) (z8z _ _ _) (by (simp only [a0f, r7r, s3s, s6s, T153]; omega)) ?_)
 refine dv 9 ?_
 refine r0r (b := 1) rfl rfl (by (simp; done)) (by (simp; omega)) ?_
 refine dv 2 ?_
 refine x5x (ι := Nat × List Ev) (fun i γ1 => [(4, pI (i.1 : Int))]) (fun i γ1 => [(1, ((γ1 1), .row 153 7 ((i.2).map z2z))), (0, ((γ 0), .box 303 [.ref 1 (γ1 1), .fn (.func 127) [] []]))]) (fun i => a8l a2e i.2 i.1 = b9a a2e l x ∧ i.1 < i.2.length ∧ i.2.length = l.length + 1) (fun i => i.1) (x8x 0 rfl Cov.nil) (a1c [2, 3, 4] rfl) (l.length, l ++ [x]) ⟨rfl, by simp, by simp⟩ [0, _] (Cov.cons' (t := 4) rfl (by simp) Cov.nil) x4x rfl fun i γ1 hi => ?_
 obtain ⟨k, m⟩ := i
 obtain ⟨h1, h2, h3⟩ := hi
 dsimp only at h1 h2 h3 ⊢
 refine dc 4 (fun K K' => aS ?_ ?_)<;>intro h<;>try simp at h
 ·have hk : k = 0 := by omega
  subst hk
  have hfin := siftUp_zero.symm.trans h1
  refine dv 1 ?_
  exact ⟨[γ 0, _], rfl, rfl, HE.box rfl rfl (HE.row rfl (by rw [← hfin]) HE.nil)⟩
 obtain ⟨a, ha⟩ := gE m k
 obtain ⟨b, hb⟩ := gE m ((k - 1) / 2)
 have hp : (k - 1) / 2 < k := by omega
 refine dv 4 ?_
 refine r0r (b := 1) rfl rfl (by omega) (by omega) (d0z (b := 2) rfl rfl (by omega) (by omega) (dv 12 fun K K' => ?_))
 refine z0z (j := k) rfl rfl a2b rfl q0q rfl rfl (by omega) ?_
 refine dv 6 ?_
 refine z0z (j := (k - 1) / 2) rfl rfl a2b rfl q0q rfl rfl (by omega) ?_
 refine dv 1 ?_
 refine x0x rfl rfl rfl (a5r _ _) (dc 1 (aI ?_ ?_))<;>intro hc4<;>try simp at hc4
 ·have hfin := (c0y ha hb hc4).symm.trans h1
  refine dv 1 ?_
  exact ⟨[γ 0, _], rfl, rfl, HE.box rfl rfl (HE.row rfl (by rw [← hfin]) HE.nil)⟩
 have hg := hc4
 refine dv 17 ?_
 refine z0z (j := (k - 1) / 2) rfl rfl a2b rfl q0q rfl rfl (by omega) ?_
 refine dv 6 ?_
 refine z0z (j := k) rfl rfl a2b rfl q0q rfl rfl (by omega) ?_
 refine dv 1 ?_
 refine z0z (j := k) rfl rfl a2b rfl q0q rfl rfl (by omega) ?_
 refine v4v (el' := b) rfl rfl q0q rfl rfl rfl ha rfl (a5o _) rfl rfl ?_
 refine z0z (j := (k - 1) / 2) rfl rfl a2b rfl q0q rfl rfl (by rw [List.length_set]; omega) ?_
 refine v4v (el' := a) rfl rfl q0q rfl rfl rfl (by rw [List.getElem?_set_ne (by omega)]; exact hb) rfl (a5o _) rfl rfl ?_
 refine dv 3 ?_
 exact ⟨((k - 1) / 2, sw m k ((k - 1) / 2)), ⟨⟨by rw [← h1, c0x (by omega) ha hb hg], by rw [b3v]; dsimp only; omega, by rw [b3v]; exact h3⟩, (by dsimp only; omega)⟩, [0, _], x6x, x6x, (HE.row rfl (by rw [e7w ha hb]) (HE.box rfl rfl HE.nil)), x4x, rfl⟩
theorem a6p (m : Ev) (r : List Ev) (hl : r.length ≤ 1000000000) : Meth Tryz.prog 305 2 [0] [.ptr 0 0 0] [(0, (0, .box 303 [.ref 1 0, .fn (.func 127) [] []])), (1, (0, .row 153 7 ((m :: r).map z2z)))] (.agg (z2z m)) [(0, (0, .box 303 [.ref 1 0, .fn (.func 127) [] []])), (1, (0, .row 153 7 ((b5a a2e (m :: r)).map z2z)))] := by
 refine a0m v7v (fn := Tryz.f305) (by kernel_rfl) (by kernel_rfl) rfl (O0 := [.agg (z2z m)]) 2 2 (s2s rfl) (by rfl) (by repeat (first | exact BndH.nil | refine BndH.box rfl ?_ | refine BndH.row (q7q fun _ => rfl) ?_)) (by repeat (first | exact BndH.nil | refine BndH.box rfl ?_ | refine BndH.row (q7q fun _ => rfl) ?_)) (by rfl) fun γ => ?_
 show Ex Tryz.prog _ _ [(0, .ptr 0 (γ 0) 0)] [(0, ((γ 0), .box 303 [.ref 1 (γ 1), .fn (.func 127) [] []])), (1, ((γ 1), .row 153 7 ((m :: r).map z2z))), (3, (0, .dead)), (2, (0, .dead))] _
 obtain ⟨T0, hT⟩ : ∃ T0, T0 = ((m :: r).set 0 ((m :: r).getLast (by simp))).take r.length := ⟨_, rfl⟩
 have hres : b5a a2e (m :: r) = a2h a2e T0 0 := by rw [hT]; rfl
 have hTl : T0.length = r.length := by rw [hT]; simp
 have hlast : (m :: r)[(m :: r).length - 1]? = some ((m :: r).getLast (by simp)) := by rw [← List.getLast?_eq_getElem?, List.getLast?_eq_some_getLast]
 refine exR (x2x (id := 2) q0q c4o rfl (exR (v5v rfl (b8u rfl rfl (v1v rfl d7c rfl rfl a2b rfl rfl (y9y rfl a2b rfl rfl ?_))))))
 refine z0z (j := 0) rfl rfl a2b rfl q0q rfl rfl (by simp) ?_
 refine r4r rfl q0q rfl (show (m :: r)[0]? = some m from rfl) rfl rfl ?_
 refine x2x (id := 3) q0q c4o rfl (dv 7 ?_)
 refine r0r (b := 1) rfl rfl (by (simp; done)) (by (simp; omega)) ?_
 refine dv 11 ?_
 refine z0z (j := (m :: r).length - 1) rfl rfl a2b rfl q0q rfl rfl (by simp) ?_
 refine dv 1 ?_
 refine z0z (j := 0) rfl rfl a2b rfl q0q rfl rfl (by simp) ?_
 refine v4v (el' := ((m :: r).getLast (by simp))) rfl rfl q0q rfl rfl rfl (show (m :: r)[0]? = some m from rfl) rfl (a5o _) rfl rfl ?_
 refine dv 7 ?_
 refine e2w v7v (u := (m :: r).length - 1) (ys := T0.map z2z) rfl a2b rfl q0q rfl rfl rfl (by (simp; done)) (by rw [hT, List.map_take]; rfl) ?_
 refine dv 6 ?_
 refine x5x (ι := Nat × List Ev) (fun i γ1 => [(5, pI (i.1 : Int))]) (fun i γ1 => [(1, ((γ1 1), .row 153 7 ((i.2).map z2z))), (0, ((γ 0), .box 303 [.ref 1 (γ1 1), .fn (.func 127) [] []]))]) (fun i => a2h a2e i.2 i.1 = b5a a2e (m :: r) ∧ i.2.length = r.length ∧ i.1 ≤ r.length) (fun i => i.2.length - i.1) (r3r [0, 2, 3, 4] rfl) (a1c [2, 3] rfl) (0, T0) ⟨hres.symm, hTl, by omega⟩ [0, _] x6x x4x rfl fun i γ1 hi => ?_
 obtain ⟨k, t⟩ := i
 obtain ⟨h1, h2, h3⟩ := hi
 dsimp only at h1 h2 h3 ⊢
 refine dv 3 ?_
 refine b7r (a := 2) rfl rfl (by omega) (x7x (b := 1) rfl rfl (by omega) (dc 6 (fun K K' => aI ?_ ?_)))<;>intro h<;>try simp at h
 ·have hfin := (a6t (lt := a2e) (l := t) (k := k) (by omega)).symm.trans h1
  refine dv 4 ?_
  exact ⟨[γ 0, _], rfl, rfl, HE.box rfl rfl (HE.row rfl (by rw [← hfin]) HE.nil)⟩
 have hlt : 2 * k + 1 < t.length := by omega
 refine dv 1 ?_
 refine p9p (ι := Unit) (fun _i γ2 => [(6, pI (a4n a2e t k : Int))]) (fun _i γ2 => []) (fun _i => True) (r3r [0, 2, 3, 4, 5] rfl) (a1c [0, 1, 2, 3] rfl) ?_ fun _i γ2 hi => ?_
 ·refine dv 2 ?_
  refine x7x (b := 1) rfl rfl (by omega) (dc 3 (aS ?_ ?_))<;>intro h<;>try simp at h
  ·have hlt2 : ¬ 2 * k + 2 < t.length := by omega
   refine dv 22 ?_
   exact ⟨(), trivial, [], (Cov.cons' (t := 6) rfl (by rw [e7z (by omega)]) Cov.nil), x6x, x4x, x4x, rfl⟩
  have hlt2 : 2 * k + 1 + 1 < t.length := by omega
  obtain ⟨c1, hc1⟩ := gE t (2 * k + 1 + 1)
  obtain ⟨d1, hd1⟩ := gE t (2 * k + 1)
  refine dv 9 ?_
  refine x7x (b := 1) rfl rfl (by omega) (dv 0 ?_)
  refine z0z (j := 2 * k + 1 + 1) rfl rfl a2b rfl q0q rfl rfl (by omega) ?_
  refine dv 6 ?_
  refine z0z (j := 2 * k + 1) rfl rfl a2b rfl q0q rfl rfl (by omega) ?_
  refine dv 1 ?_
  refine x0x rfl rfl rfl (a5r _ _) (dc 1 (aS ?_ ?_))<;>intro hc4<;>try simp at hc4
  ·try have hl1 := hc4
   refine dv 1 ?_
   exact ⟨(), trivial, [], (Cov.cons' (t := 6) rfl (by rw [e7y hc1 hd1 hl1]) Cov.nil), x6x, x4x, x4x, rfl⟩
  have hl1 := hc4
  refine dv 2 ?_
  refine x7x (b := 1) rfl rfl (by omega) (dv 1 ?_)
  exact ⟨(), trivial, [], (Cov.cons' (t := 6) rfl (by rw [e7x hc1 hd1 hl1]) Cov.nil), x6x, x4x, x4x, rfl⟩
 ·try dsimp only [b1n, b1o]
  have hch := b3d (lt := a2e) t k
  obtain ⟨a, ha⟩ := gE t (a4n a2e t k)
  obtain ⟨b, hb⟩ := gE t k
  refine dv 11 fun K K' => ?_
  refine z0z (j := a4n a2e t k) rfl rfl a2b rfl q0q rfl rfl (by omega) ?_
  refine dv 6 ?_
  refine z0z (j := k) rfl rfl a2b rfl q0q rfl rfl (by omega) ?_
  refine dv 1 ?_
  refine x0x rfl rfl rfl (a5r _ _) (dc 1 (aI ?_ ?_))<;>intro hc7<;>try simp at hc7
  ·have hfin := (b6m ha hb hc7).symm.trans h1
   refine dv 4 ?_
   exact ⟨[γ 0, _], rfl, rfl, HE.box rfl rfl (HE.row rfl (by rw [← hfin]) HE.nil)⟩
  have hg := hc7
  refine dv 17 ?_
  refine z0z (j := a4n a2e t k) rfl rfl a2b rfl q0q rfl rfl (by omega) ?_
  refine dv 6 ?_
  refine z0z (j := k) rfl rfl a2b rfl q0q rfl rfl (by omega) ?_
  refine dv 1 ?_
  refine z0z (j := k) rfl rfl a2b rfl q0q rfl rfl (by omega) ?_
  refine v4v (el' := a) rfl rfl q0q rfl rfl rfl hb rfl (a5o _) rfl rfl ?_
  refine z0z (j := a4n a2e t k) rfl rfl a2b rfl q0q rfl rfl (by rw [List.length_set]; omega) ?_
  refine v4v (el' := b) rfl rfl q0q rfl rfl rfl (by rw [List.getElem?_set_ne (by omega)]; exact ha) rfl (a5o _) rfl rfl ?_
  refine dv 3 ?_
  exact ⟨(a4n a2e t k, sw t (a4n a2e t k) k), ⟨⟨by rw [← h1, b6l (by omega) ha hb hg], by rw [b3v]; exact h2, by dsimp only; omega⟩, (by dsimp only; rw [b3v]; omega)⟩, [0, _], x6x, x6x, (HE.row rfl (by rw [e7w ha hb, List.set_comm _ _ (by omega)]) (HE.box rfl rfl HE.nil)), x4x, rfl⟩
theorem a5l (l : List Ev) (hl : l.length ≤ 1000000000) : Meth Tryz.prog 276 2 [0] [.ptr 0 0 0] [(0, (0, .box 303 [.ref 1 0, .fn (.func 127) [] []])), (1, (0, .row 153 7 ((l).map z2z)))] (.row (.rd true) 153 7 ((a7n a2e l.length l).map z2z)) [(0, (0, .box 303 [.ref 1 0, .fn (.func 127) [] []])), (1, (0, .row 153 7 ((([] : List Ev)).map z2z)))] := by
 refine mX Tryz.f276 [.row (.rd true) 153 7 ((a7n a2e l.length l).map z2z)] 2 3 fun γ => ?_
 refine dv 8 ?_
 refine d2x v7v (id := 2) a2b rfl q0q rfl rfl (by (simp only [a0f, r7r, s3s, s6s, T153]; omega)) (by (unfold maxLen; omega)) rfl ?_
 refine dv 3 fun K K' => ?_
 refine x5x (ι := List Ev × List Ev) (fun i γ1 => [(3, .ref 2 (γ1 2))]) (fun i γ1 => [(1, ((γ1 1), .row 153 7 ((i.1).map z2z))), (2, ((γ1 2), .row 153 7 ((i.2).map z2z))), (0, ((γ 0), .box 303 [.ref 1 (γ1 1), .fn (.func 127) [] []])), (3, ((γ1 3), .dead)), (4, ((γ1 4), .dead))]) (fun i => i.2 ++ a7n a2e i.1.length i.1 = a7n a2e l.length l ∧ i.1.length + i.2.length = l.length) (fun i => i.1.length) (x8x 0 rfl Cov.nil) HE.nil (l, []) ⟨rfl, rfl⟩ [0, _, _, _, _] x6x x4x rfl fun i γ1 hi => ?_
 obtain ⟨ls, o⟩ := i
 obtain ⟨h1, h2⟩ := hi
 dsimp only at h1 h2 ⊢
 refine dc 8 (fun K K' => aS ?_ ?_)<;>intro hc3<;>try simp at hc3
 ·obtain rfl : ls = [] := hc3
  have ho : o = a7n a2e l.length l := by rw [← h1]; simp [a7n]
  subst ho
  refine dv 1 ?_
  refine r1r 3 rfl rfl (fun _ => rfl) ?_
  refine dv 4 ?_
  exact ⟨[γ 0, _], rfl, rfl, x4x⟩
 obtain ⟨m, r, rfl⟩ : ∃ m r, ls = m :: r := by cases ls with | nil => simp at hc3 | cons m r => exact ⟨m, r, rfl⟩
 simp only [s3s] at h2
 refine dv 5 ?_
 refine rlM [0, 1] [_, _] (a6p m r (by omega)) rfl rfl rfl ?_
 refine y5y (id := 3) a2b rfl q0q rfl rfl rfl rfl rfl rfl (y6y rfl rfl a2b rfl q0q rfl rfl rfl rfl (by rfl) (z8z _ _ _) (by (simp only [a0f, r7r, s3s, s6s, T153]; omega)) ?_)
 refine dv 1 ?_
 exact ⟨(b5a a2e (m :: r), o ++ [m]), ⟨⟨by rw [← h1, b6n, List.append_assoc]; rfl, by rw [b6n, List.length_append]; simp only [s3s, s6s] at h2 ⊢; omega⟩, (by dsimp only; rw [b6n]; simp)⟩, [0, _, _, _, _], x6x, x6x, (HE.row rfl rfl (HE.row rfl (by simp) (HE.box rfl rfl (HE.kill rfl (HE.kill rfl HE.nil))))), x4x, rfl⟩
end
section
theorem b1c (c : Bool) (l : List Ev) (hl : l.length ≤ 1000000000) : Meth Tryz.prog 210 1 [] [a0g c l] [(0, (0, .dead))] (.ref 0 0) [(0, (0, .row 56 7 ((u5u l).map z2z)))] := by
 refine mX Tryz.f210 [.ref 0 0] 1 8 fun γ => ?_
 refine dv 3 ?_
 refine rlB d7c e5r ?_
 refine x2x (id := 1) d7c e5r rfl (dv 2 ?_)
 refine c4q (id := 2) rfl (dv 7 fun K K' => ?_)
 refine a1b 1 0 7 153 7 rfl rfl rfl rfl rfl ?_
 refine x5x (ι := Nat) (fun i γ1 => [(15, pI (i : Int))]) (fun i γ1 => [(7, ((γ1 7), .row 153 7 ((b3p a2e (p0p (l.take i))).map z2z))), (1, ((0 + 1), .box 303 [.ref 7 (γ1 7), .fn (.func 127) [] []])), (2, ((0 + 1), .map (a8x (l.take i)))), (3, ((γ1 3), .dead)), (4, ((γ1 4), .dead))]) (fun i => i ≤ l.length) (fun i => l.length - i) (r3r [3, 4, 13, 14] rfl) (a1c [0, 5, 6, 8] rfl) 0 (by omega) [0, 0, 0, _, _, 0, 0, _] x6x (HE.row rfl (by rw [List.take_zero]; try rfl) (HE.box rfl rfl (HE.map rfl (by rw [List.take_zero]; try rfl) (HE.kill rfl (HE.kill rfl HE.nil))))) rfl fun i γ1 hi => ?_
 refine dc 3 (fun K K' => aS ?_ ?_)<;>intro o<;>try simp at o
 ·obtain rfl : i = l.length := by omega
  obtain ⟨H, hH⟩ : ∃ H, H = b3p a2e (p0p (l.take l.length)) := ⟨_, rfl⟩
  rw [← hH]
  have hhl : H.length ≤ 1000000000 := by rw [hH, b6o]; exact Nat.le_trans (b7x _) (by rw [List.length_take]; omega)
  refine dv 5 ?_
  refine d2x v7v (id := 0) v2v rfl z3z rfl rfl (by (simp only [a0f, r7r, s3s, s6s, T56]; omega)) (by (unfold maxLen; omega)) rfl ?_
  refine dv 3 fun K K' => ?_
  refine rlM [1, 7] [_, _] (a5l _ hhl) rfl rfl rfl ?_
  refine dv 3 ?_
  obtain ⟨D, hD⟩ : ∃ D, D = a7n a2e H.length H := ⟨_, rfl⟩
  rw [← hD]
  have hDl : D.length ≤ 1000000000 := Nat.le_trans (by rw [hD]; exact c1a _ _) hhl
  refine x5x (ι := Nat) (fun i γ3 => [(8, .ref 0 (γ3 0)), (40, pI (i : Int))]) (fun i γ3 => [(0, ((γ3 0), .row 56 7 ((D.take i).map z2z))), (5, ((γ3 5), .dead)), (6, ((γ3 6), .dead)), (7, ((γ3 7), .dead))]) (fun i => i ≤ D.length) (fun i => D.length - i) (r3r [38, 39] rfl) (a1c [1, 2, 3, 4, 8] rfl) 0 (by omega) [_, 0, 0, 0, 0, _, _, _] x6x (HE.row rfl (by rw [List.take_zero]; try rfl) (HE.kill rfl (HE.kill rfl (HE.kill rfl HE.nil)))) rfl fun i γ3 hi => ?_
  refine dc 3 (fun K K' => aS ?_ ?_)<;>intro o<;>try simp at o
  ·refine dv 5 ?_
   exact ⟨[_], rfl, rfl, HE.row rfl (by rw [List.take_of_length_le (by omega), hD, hH, List.take_length, b6o, c1d]) HE.nil⟩
  obtain ⟨k1, hk1⟩ := gE D i
  have hDi : (D.take i).length ≤ 1000000000 := by rw [List.length_take]; omega
  refine dv 6 fun K K' => ?_
  refine x2x (id := 5) q0q c4o rfl (dv 4 ?_)
  refine x0x rfl rfl rfl (b2r ..) (y5y (id := 6) v2v rfl z3z rfl rfl rfl rfl rfl rfl (y6y rfl rfl v2v rfl z3z rfl rfl rfl rfl (by rfl) (z8z _ _ _) (by (simp only [a0f, r7r, s3s, s6s, T56]; omega)) ?_))
  refine dv 2 ?_
  refine x7x (b := 1) rfl rfl (by omega) (dv 1 ?_)
  exact ⟨i + 1, ⟨by omega, by omega⟩, [_, 0, 0, 0, 0, _, _, _], x6x, x6x, (HE.row rfl (by rw [z7z hk1]) (HE.kill rfl (HE.kill rfl (HE.kill rfl HE.nil)))), x4x, rfl⟩
 obtain ⟨e, he⟩ := gE l i
 have hcnt : (l.take i).count e ≤ 1000000000 := Nat.le_trans List.count_le_length (by rw [List.length_take]; omega)
 refine dv 6 fun K K' => ?_
 refine x2x (id := 3) z3z a8c rfl (dv 3 ?_)
 refine x0x rfl rfl rfl (b2q ..) (x2x (id := 4) q0q c4o rfl (dv 1 ?_))
 refine p9p (ι := Unit) (fun _i γ2 => []) (fun _i γ2 => [(2, ((0 + 1), .map (a8x (l.take i ++ [e]))))]) (fun _i => True) (r3r [3, 4, 7, 13, 14, 15] rfl) (a1c [0, 1, 3, 4, 5, 6, 7, 8] rfl) ?_ fun _i γ2 hi => ?_
 ·refine c3l c0m rfl fun B X0 w0 => ?_
  refine z5z v7v (l := [0, 1]) (by kernel_rfl) (by decide) ?_
  refine .cons rfl rfl rfl ?_ ?_
  ·refine dv 1 ?_
   refine z5z v7v (l := [1]) (by kernel_rfl) (by decide) ?_
   refine .cons rfl rfl rfl ?_ ?_
   ·refine dv 1 ?_
    refine z5z v7v (l := [2, 4]) (by kernel_rfl) (by decide) ?_
    refine .cons rfl rfl rfl ?_ ?_
    ·refine a5w v7v (ks := p0p (l.take i)) (k := e) Tryz.underlying304 evF rfl rfl (fun _ _ _ h => a5i h) rfl (a1s (l.take i)) (b8l q9q rfl (l.take i) e) ?_
     refine dv 0 ?_
     refine z5z v7v (l := [3, 4]) (by kernel_rfl) (by decide) ?_
     refine .cons rfl rfl rfl ?_ ?_
     ·refine x7x (b := 1) rfl rfl (by omega) (dv 0 ?_)
      refine z5z v7v (l := [4]) (by kernel_rfl) (by decide) ?_
      refine .cons rfl rfl rfl ?_ ?_
      ·refine a5h v7v (es' := b5o (l.take i) e) (j := a3t (l.take i) e) (out := pI ((l.take i).count e : Nat)) (ks := p0p (l.take i)) (k := e) Tryz.underlying304 evF rfl rfl (fun _ _ _ h => a5i h) rfl (a1s _) (a4g q9q rfl _ _) ?_
       refine dv 0 ?_
       refine z5z v7v (l := [5]) (by kernel_rfl) (by decide) ?_
       refine .cons rfl rfl rfl ?_ ?_
       ·refine dv 1 ?_
        refine z5z v7v (l := [6]) (by kernel_rfl) (by decide) ?_
        refine .cons rfl rfl rfl ?_ ?_
        ·refine q6q (j := a3t (l.take i) e) rfl rfl rfl rfl (a1t _ _) (a2n _ _) ?_
         refine dv 0 ?_
         refine a2l (by kernel_rfl) ?_
         exact ⟨(), trivial, [], x6x, x6x, (HE.map rfl rfl HE.nil), x4x, rfl⟩
        exact .nil
       exact .nil
      exact .nil
     refine .cons rfl rfl rfl ?_ ?_
     ·refine a5h v7v (es' := b5o (l.take i) e) (j := a3t (l.take i) e) (out := pI ((l.take i).count e : Nat)) (ks := p0p (l.take i)) (k := e) Tryz.underlying304 evF rfl rfl (fun _ _ _ h => a5i h) rfl (a1s _) (a4g q9q rfl _ _) ?_
      refine dv 0 ?_
      refine z5z v7v (l := [3, 5]) (by kernel_rfl) (by decide) ?_
      refine .cons rfl rfl rfl ?_ ?_
      ·refine x7x (b := 1) rfl rfl (by omega) (dv 0 ?_)
       refine z5z v7v (l := [5]) (by kernel_rfl) (by decide) ?_
       refine .cons rfl rfl rfl ?_ ?_
       ·refine dv 1 ?_
        refine z5z v7v (l := [6]) (by kernel_rfl) (by decide) ?_
        refine .cons rfl rfl rfl ?_ ?_
        ·refine q6q (j := a3t (l.take i) e) rfl rfl rfl rfl (a1t _ _) (a2n _ _) ?_
         refine dv 0 ?_
         refine a2l (by kernel_rfl) ?_
         exact ⟨(), trivial, [], x6x, x6x, (HE.map rfl rfl HE.nil), x4x, rfl⟩
        exact .nil
       exact .nil
      refine .cons rfl rfl rfl ?_ ?_
      ·refine dv 1 ?_
       refine z5z v7v (l := [3]) (by kernel_rfl) (by decide) ?_
       refine .cons rfl rfl rfl ?_ ?_
       ·refine x7x (b := 1) rfl rfl (by omega) (dv 0 ?_)
        refine z5z v7v (l := [6]) (by kernel_rfl) (by decide) ?_
        refine .cons rfl rfl rfl ?_ ?_
        ·refine q6q (j := a3t (l.take i) e) rfl rfl rfl rfl (a1t _ _) (a2n _ _) ?_
         refine dv 0 ?_
         refine a2l (by kernel_rfl) ?_
         exact ⟨(), trivial, [], x6x, x6x, (HE.map rfl rfl HE.nil), x4x, rfl⟩
        exact .nil
       exact .nil
      exact .nil
     exact .nil
    refine .cons rfl rfl rfl ?_ ?_
    ·refine a5h v7v (es' := b5o (l.take i) e) (j := a3t (l.take i) e) (out := pI ((l.take i).count e : Nat)) (ks := p0p (l.take i)) (k := e) Tryz.underlying304 evF rfl rfl (fun _ _ _ h => a5i h) rfl (a1s _) (a4g q9q rfl _ _) ?_
     refine dv 0 ?_
     refine z5z v7v (l := [2, 5]) (by kernel_rfl) (by decide) ?_
     refine .cons rfl rfl rfl ?_ ?_
     ·refine a5w v7v (ks := e4z (l.take i) e) (k := e) Tryz.underlying304 evF rfl rfl (fun _ _ _ h => a5i h) rfl (b3k (l.take i) e) (b3l (l.take i) e) ?_
      refine dv 0 ?_
      refine z5z v7v (l := [3, 5]) (by kernel_rfl) (by decide) ?_
      refine .cons rfl rfl rfl ?_ ?_
      ·refine x7x (b := 1) rfl rfl (by omega) (dv 0 ?_)
       refine z5z v7v (l := [5]) (by kernel_rfl) (by decide) ?_
       refine .cons rfl rfl rfl ?_ ?_
       ·refine dv 1 ?_
        refine z5z v7v (l := [6]) (by kernel_rfl) (by decide) ?_
        refine .cons rfl rfl rfl ?_ ?_
        ·refine q6q (j := a3t (l.take i) e) rfl rfl rfl rfl (a1t _ _) (a2n _ _) ?_
         refine dv 0 ?_
         refine a2l (by kernel_rfl) ?_
         exact ⟨(), trivial, [], x6x, x6x, (HE.map rfl rfl HE.nil), x4x, rfl⟩
        exact .nil
       exact .nil
      refine .cons rfl rfl rfl ?_ ?_
      ·refine dv 1 ?_
       refine z5z v7v (l := [3]) (by kernel_rfl) (by decide) ?_
       refine .cons rfl rfl rfl ?_ ?_
       ·refine x7x (b := 1) rfl rfl (by omega) (dv 0 ?_)
        refine z5z v7v (l := [6]) (by kernel_rfl) (by decide) ?_
        refine .cons rfl rfl rfl ?_ ?_
        ·refine q6q (j := a3t (l.take i) e) rfl rfl rfl rfl (a1t _ _) (a2n _ _) ?_
         refine dv 0 ?_
         refine a2l (by kernel_rfl) ?_
         exact ⟨(), trivial, [], x6x, x6x, (HE.map rfl rfl HE.nil), x4x, rfl⟩
        exact .nil
       exact .nil
      exact .nil
     refine .cons rfl rfl rfl ?_ ?_
     ·refine dv 1 ?_
      refine z5z v7v (l := [2]) (by kernel_rfl) (by decide) ?_
      refine .cons rfl rfl rfl ?_ ?_
      ·refine a5w v7v (ks := e4z (l.take i) e) (k := e) Tryz.underlying304 evF rfl rfl (fun _ _ _ h => a5i h) rfl (b3k (l.take i) e) (b3l (l.take i) e) ?_
       refine dv 0 ?_
       refine z5z v7v (l := [3]) (by kernel_rfl) (by decide) ?_
       refine .cons rfl rfl rfl ?_ ?_
       ·refine x7x (b := 1) rfl rfl (by omega) (dv 0 ?_)
        refine z5z v7v (l := [6]) (by kernel_rfl) (by decide) ?_
        refine .cons rfl rfl rfl ?_ ?_
        ·refine q6q (j := a3t (l.take i) e) rfl rfl rfl rfl (a1t _ _) (a2n _ _) ?_
         refine dv 0 ?_
         refine a2l (by kernel_rfl) ?_
         exact ⟨(), trivial, [], x6x, x6x, (HE.map rfl rfl HE.nil), x4x, rfl⟩
        exact .nil
       exact .nil
      exact .nil
     exact .nil
    exact .nil
   exact .nil
  refine .cons rfl rfl rfl ?_ ?_
  ·refine dv 1 ?_
   refine z5z v7v (l := [0]) (by kernel_rfl) (by decide) ?_
   refine .cons rfl rfl rfl ?_ ?_
   ·refine dv 1 ?_
    refine z5z v7v (l := [2, 4]) (by kernel_rfl) (by decide) ?_
    refine .cons rfl rfl rfl ?_ ?_
    ·refine a5w v7v (ks := p0p (l.take i)) (k := e) Tryz.underlying304 evF rfl rfl (fun _ _ _ h => a5i h) rfl (a1s (l.take i)) (b8l q9q rfl (l.take i) e) ?_
     refine dv 0 ?_
     refine z5z v7v (l := [3, 4]) (by kernel_rfl) (by decide) ?_
     refine .cons rfl rfl rfl ?_ ?_
     ·refine x7x (b := 1) rfl rfl (by omega) (dv 0 ?_)
      refine z5z v7v (l := [4]) (by kernel_rfl) (by decide) ?_
      refine .cons rfl rfl rfl ?_ ?_
      ·refine a5h v7v (es' := b5o (l.take i) e) (j := a3t (l.take i) e) (out := pI ((l.take i).count e : Nat)) (ks := p0p (l.take i)) (k := e) Tryz.underlying304 evF rfl rfl (fun _ _ _ h => a5i h) rfl (a1s _) (a4g q9q rfl _ _) ?_
       refine dv 0 ?_
       refine z5z v7v (l := [5]) (by kernel_rfl) (by decide) ?_
       refine .cons rfl rfl rfl ?_ ?_
       ·refine dv 1 ?_
        refine z5z v7v (l := [6]) (by kernel_rfl) (by decide) ?_
        refine .cons rfl rfl rfl ?_ ?_
        ·refine q6q (j := a3t (l.take i) e) rfl rfl rfl rfl (a1t _ _) (a2n _ _) ?_
         refine dv 0 ?_
         refine a2l (by kernel_rfl) ?_
         exact ⟨(), trivial, [], x6x, x6x, (HE.map rfl rfl HE.nil), x4x, rfl⟩
        exact .nil
       exact .nil
      exact .nil
     refine .cons rfl rfl rfl ?_ ?_
     ·refine a5h v7v (es' := b5o (l.take i) e) (j := a3t (l.take i) e) (out := pI ((l.take i).count e : Nat)) (ks := p0p (l.take i)) (k := e) Tryz.underlying304 evF rfl rfl (fun _ _ _ h => a5i h) rfl (a1s _) (a4g q9q rfl _ _) ?_
      refine dv 0 ?_
      refine z5z v7v (l := [3, 5]) (by kernel_rfl) (by decide) ?_
      refine .cons rfl rfl rfl ?_ ?_
      ·refine x7x (b := 1) rfl rfl (by omega) (dv 0 ?_)
       refine z5z v7v (l := [5]) (by kernel_rfl) (by decide) ?_
       refine .cons rfl rfl rfl ?_ ?_
       ·refine dv 1 ?_
        refine z5z v7v (l := [6]) (by kernel_rfl) (by decide) ?_
        refine .cons rfl rfl rfl ?_ ?_
        ·refine q6q (j := a3t (l.take i) e) rfl rfl rfl rfl (a1t _ _) (a2n _ _) ?_
         refine dv 0 ?_
         refine a2l (by kernel_rfl) ?_
         exact ⟨(), trivial, [], x6x, x6x, (HE.map rfl rfl HE.nil), x4x, rfl⟩
        exact .nil
       exact .nil
      refine .cons rfl rfl rfl ?_ ?_
      ·refine dv 1 ?_
       refine z5z v7v (l := [3]) (by kernel_rfl) (by decide) ?_
       refine .cons rfl rfl rfl ?_ ?_
       ·refine x7x (b := 1) rfl rfl (by omega) (dv 0 ?_)
        refine z5z v7v (l := [6]) (by kernel_rfl) (by decide) ?_
        refine .cons rfl rfl rfl ?_ ?_
        ·refine q6q (j := a3t (l.take i) e) rfl rfl rfl rfl (a1t _ _) (a2n _ _) ?_
         refine dv 0 ?_
         refine a2l (by kernel_rfl) ?_
         exact ⟨(), trivial, [], x6x, x6x, (HE.map rfl rfl HE.nil), x4x, rfl⟩
        exact .nil
       exact .nil
      exact .nil
     exact .nil
    refine .cons rfl rfl rfl ?_ ?_
    ·refine a5h v7v (es' := b5o (l.take i) e) (j := a3t (l.take i) e) (out := pI ((l.take i).count e : Nat)) (ks := p0p (l.take i)) (k := e) Tryz.underlying304 evF rfl rfl (fun _ _ _ h => a5i h) rfl (a1s _) (a4g q9q rfl _ _) ?_
     refine dv 0 ?_
     refine z5z v7v (l := [2, 5]) (by kernel_rfl) (by decide) ?_
     refine .cons rfl rfl rfl ?_ ?_
     ·refine a5w v7v (ks := e4z (l.take i) e) (k := e) Tryz.underlying304 evF rfl rfl (fun _ _ _ h => a5i h) rfl (b3k (l.take i) e) (b3l (l.take i) e) ?_
      refine dv 0 ?_
      refine z5z v7v (l := [3, 5]) (by kernel_rfl) (by decide) ?_
      refine .cons rfl rfl rfl ?_ ?_
      ·refine x7x (b := 1) rfl rfl (by omega) (dv 0 ?_)
       refine z5z v7v (l := [5]) (by kernel_rfl) (by decide) ?_
       refine .cons rfl rfl rfl ?_ ?_
       ·refine dv 1 ?_
        refine z5z v7v (l := [6]) (by kernel_rfl) (by decide) ?_
        refine .cons rfl rfl rfl ?_ ?_
        ·refine q6q (j := a3t (l.take i) e) rfl rfl rfl rfl (a1t _ _) (a2n _ _) ?_
         refine dv 0 ?_
         refine a2l (by kernel_rfl) ?_
         exact ⟨(), trivial, [], x6x, x6x, (HE.map rfl rfl HE.nil), x4x, rfl⟩
        exact .nil
       exact .nil
      refine .cons rfl rfl rfl ?_ ?_
      ·refine dv 1 ?_
       refine z5z v7v (l := [3]) (by kernel_rfl) (by decide) ?_
       refine .cons rfl rfl rfl ?_ ?_
       ·refine x7x (b := 1) rfl rfl (by omega) (dv 0 ?_)
        refine z5z v7v (l := [6]) (by kernel_rfl) (by decide) ?_
        refine .cons rfl rfl rfl ?_ ?_
        ·refine q6q (j := a3t (l.take i) e) rfl rfl rfl rfl (a1t _ _) (a2n _ _) ?_
         refine dv 0 ?_
         refine a2l (by kernel_rfl) ?_
         exact ⟨(), trivial, [], x6x, x6x, (HE.map rfl rfl HE.nil), x4x, rfl⟩
        exact .nil
       exact .nil
      exact .nil
     refine .cons rfl rfl rfl ?_ ?_
     ·refine dv 1 ?_
      refine z5z v7v (l := [2]) (by kernel_rfl) (by decide) ?_
      refine .cons rfl rfl rfl ?_ ?_
      ·refine a5w v7v (ks := e4z (l.take i) e) (k := e) Tryz.underlying304 evF rfl rfl (fun _ _ _ h => a5i h) rfl (b3k (l.take i) e) (b3l (l.take i) e) ?_
       refine dv 0 ?_
       refine z5z v7v (l := [3]) (by kernel_rfl) (by decide) ?_
       refine .cons rfl rfl rfl ?_ ?_
       ·refine x7x (b := 1) rfl rfl (by omega) (dv 0 ?_)
        refine z5z v7v (l := [6]) (by kernel_rfl) (by decide) ?_
        refine .cons rfl rfl rfl ?_ ?_
        ·refine q6q (j := a3t (l.take i) e) rfl rfl rfl rfl (a1t _ _) (a2n _ _) ?_
         refine dv 0 ?_
         refine a2l (by kernel_rfl) ?_
         exact ⟨(), trivial, [], x6x, x6x, (HE.map rfl rfl HE.nil), x4x, rfl⟩
        exact .nil
       exact .nil
      exact .nil
     exact .nil
    exact .nil
   exact .nil
  exact .nil
 ·try dsimp only [b1n, b1o]
  refine dv 3 ?_
  refine a5w v7v (ks := p0p (l.take i ++ [e])) (k := e) Tryz.underlying304 evF rfl rfl (fun _ _ _ h => a5i h) rfl (a1s (l.take i ++ [e])) (b8l q9q rfl (l.take i ++ [e]) e) ?_
  refine dc 1 (aS ?_ ?_)<;>intro hc5<;>try simp at hc5
  ·have hq : ¬ (l.take i ++ [e]).count e = 1 := by (have := hc5; simp at this ⊢; omega)
   refine dv 2 ?_
   refine x7x (b := 1) rfl rfl (by omega) (dv 1 ?_)
   exact ⟨i + 1, ⟨by omega, by omega⟩, [0, 0, 0, _, _, 0, 0, _], x6x, x6x, (HE.row rfl (by rw [z7z he, d2b hq]) (HE.box rfl rfl (HE.map rfl (by rw [z7z he]) (HE.kill rfl (HE.kill rfl HE.nil))))), x4x, rfl⟩
  have hq : (l.take i ++ [e]).count e = 1 := by (have := hc5; simp at this ⊢; omega)
  have hpl : (b3p a2e (p0p (l.take i))).length ≤ 1000000000 := by rw [b6o]; exact Nat.le_trans (b7x _) (by rw [List.length_take]; omega)
  refine dv 2 ?_
  refine rlM [1, 7] [_, _] (a6c _ e hpl) rfl rfl rfl ?_
  refine dv 1 ?_
  refine x7x (b := 1) rfl rfl (by omega) (dv 1 ?_)
  exact ⟨i + 1, ⟨by omega, by omega⟩, [0, 0, 0, _, _, 0, 0, _], x6x, x6x, (HE.row rfl (by rw [z7z he, d2a hq]) (HE.box rfl rfl (HE.map rfl (by rw [z7z he]) (HE.kill rfl (HE.kill rfl HE.nil))))), x4x, rfl⟩
end
section
theorem a2u (c : Bool) (a : Ev) (l : List Ev) (hl : (a :: l).length ≤ 10000000) : Meth Tryz.prog 245 1 [] [a0g c (a :: l)] [(0, (0, .dead))] (.ref 0 0) [(0, (0, .row 56 7 ((a :: l).map z2z)))] := by
 refine mX Tryz.f245 [.ref 0 0] 1 1 fun γ => ?_
 refine dv 5 fun K K' => ?_
 refine c3i rfl rfl (by (intro p q h; cases h)) (.inl rfl) (e7o Tryz.underlying47 _ _ (by simp)) ?_
 refine a0z rfl (fun hc2 => ?_) (fun hc2 => ?_)
 ·simp [a7i] at hc2
 try simp at hc2
 refine dv 2 ?_
 refine x9x (id := 0) v2v rfl z3z rfl (dv 1 ?_)
 refine p2p (zs := (a :: l).map z2z) rfl rfl v2v rfl z3z rfl rfl rfl (z9z (fun _ => rfl) _) rfl (by (simp only [a0f, r7r, s3s, s6s, a0v, T56] at *; omega)) ?_
 refine dv 2 ?_
 exact ⟨[_], rfl, rfl, x4x⟩
theorem a3b (c : Bool) : Meth Tryz.prog 245 1 [] [a0g c []] [(0, (0, .dead))] (.ref 0 0) [(0, (0, .row 56 7 (([] : List Ev).map z2z)))] := by
 refine mX Tryz.f245 [.ref 0 0] 1 1 fun γ => ?_
 refine e3a 0 rfl fun A0 cap hcap => ?_
 refine dv 5 fun K K' => ?_
 refine c3i rfl rfl (by (intro p q h h2; cases h; cases h2; rfl)) (.inl rfl) (d8b Tryz.underlying47 _ _ _ _ _) ?_
 refine dc 0 (aI ?_ ?_)<;>intro j<;>try simp at j
 ·refine dv 2 ?_
  refine a7k 2 0 56 7 rfl rfl (dv 1 ?_)
  exact ⟨[_], rfl, rfl, x4x⟩
 refine dv 1 ?_
 refine f1j 0 56 7 rfl hcap (dv 1 ?_)
 refine x9x (id := 0) v2v rfl z3z rfl (dv 1 ?_)
 refine p2p (zs := ([] : List Ev).map z2z) rfl rfl v2v rfl z3z rfl rfl rfl (by rfl) rfl (by (simp only [a0f, r7r, s3s, s6s, a0v, T56] at *; omega)) ?_
 refine dv 2 ?_
 exact ⟨[_], rfl, rfl, x4x⟩
theorem a0j (c : Bool) (l : List Ev) (hl : l.length ≤ 10000000) : Meth Tryz.prog 245 1 [] [a0g c l] [(0, (0, .dead))] (.ref 0 0) [(0, (0, .row 56 7 (l.map z2z)))] := by
 cases l with
 | nil => exact a3b c
 | cons a l => exact a2u c a l hl
end
section
def b9t (c : Bool) (vs : List Vi) : List (Value × AV) := vs.zipIdx.map fun p => (.int .i64 (p.2 : Int), .agg (a3x c p.1))
def c3q (n : Nat) : List Int := (List.range n).map fun (i : Nat) => (i : Int)
variable {c : Bool} {vs : List Vi} {i : Nat} {v : Vi}
theorem e9z (h : vs[i]? = some v) : (b9t c vs)[i]? = some (.int .i64 (i : Int), .agg (a3x c v)) := by
 rw [b9t, List.getElem?_map, List.getElem?_zipIdx, h]; simp
theorem d0f (c : Bool) (vs : List Vi) : (b9t c vs).map (·.1) = (c3q vs.length).map fun n => Value.int .i64 n := by
 apply List.ext_getElem?
 intro i
 simp only [b9t, c3q, List.getElem?_map, List.getElem?_zipIdx, List.getElem?_range]
 by_cases h : i < vs.length
 ·simp [h]
 ·rw [List.getElem?_eq_none (by omega : vs.length ≤ i)]; simp [h]
theorem e5a (h : i < n) : a6h (c3q n) (i : Int) = some i := by
 obtain ⟨j, hj⟩ := c8g (k := (i : Int)) (ks := c3q n) (List.mem_map.2 ⟨i, List.mem_range.2 h, rfl⟩)
 have := b4x hj
 simp only [c3q, List.getElem?_map] at this
 cases hr : (List.range n)[j]? with
 | none => rw [hr] at this; cases this
 | some k =>
  rw [hr] at this
  obtain ⟨q1, q2⟩ := List.getElem?_eq_some_iff.1 hr
  simp only [List.getElem_range] at q2
  simp only [Option.map_some, Option.some.injEq] at this
  have : j = i := by omega
  rw [hj, this]
theorem e5b (n : Nat) : a6h (c3q n) (n : Int) = none := b1v.2 fun h => by
 obtain ⟨k, h1, h2⟩ := List.mem_map.1 h
 rw [List.mem_range] at h1
 omega
theorem e1s (c : Bool) (vs : List Vi) (v : Vi) : b9t c (vs ++ [v]) = b9t c vs ++ [(.int .i64 (vs.length : Int), .agg (a3x c v))] := by
 simp [b9t, List.zipIdx_append]
theorem e1t {tt : TT} {et : TypeId} (h : vs[i]? = some v) : (∃ j kv, a6h (c3q vs.length) (i : Int) = some j ∧ (b9t c vs)[j]? = some (kv, .agg (a3x c v))) ∨ (a6h (c3q vs.length) (i : Int) = none ∧ ∃ S, tt et = some S ∧ AV.agg (a3x c v) = b7t S) :=
 .inl ⟨i, _, e5a (List.getElem?_eq_some_iff.1 h).1, e9z h⟩
theorem a7u (c : Bool) (vs : List Vi) : ∀ p ∈ b9t c vs, p.2.flatA = true := fun p hp => by
 obtain ⟨q, _, rfl⟩ := List.mem_map.1 hp; rfl
end
section
theorem c7i (c : Bool) (n : Nd) (hl : n.lanes.length ≤ 1048576) : Meth Tryz.prog 158 1 [] [.agg (u0u c n)] [(0, (0, .dead))] (.agg [pI n.id, pI n.inc, pI n.g, pI n.led, .ref 0 0, a0g c n.kept, s0s c n.outs]) [(0, (0, .row 41 3 ((n.lanes).map fun l => a1v l.base)))] := by
 refine mX Tryz.f158 [.agg [pI n.id, pI n.inc, pI n.g, pI n.led, .ref 0 0, a0g c n.kept, s0s c n.outs]] 1 6 fun γ => ?_
 refine dv 1 ?_
 refine y2y (id := 1) rfl rfl rfl (x2x (id := 2) d2s d7e rfl (dv 13 ?_))
 refine rlB d2s d7e ?_
 refine x2x (id := 3) d2s d7e rfl (dv 8 fun K K' => ?_)
 refine a1b 3 4 0 41 3 rfl rfl rfl rfl rfl ?_
 refine x5x (ι := Nat) (fun i γ1 => [(22, pI (i : Int))]) (fun i γ1 => [(0, ((γ1 0), .row 41 3 ((n.lanes.take i).map fun l => a1v l.base))), (3, ((0 + 1), .box 160 [pI n.id, pI n.inc, pI n.g, pI n.led, .ref 0 (γ1 0), a0g c n.kept, s0s c n.outs])), (4, ((γ1 4), .dead)), (5, ((γ1 5), .dead)), (6, ((γ1 6), .dead))]) (fun i => i ≤ n.lanes.length) (fun i => n.lanes.length - i) (r3r [2, 3, 20, 21] rfl) (a1c [1, 2] rfl) 0 (by omega) [_, 0, 0, 0, _, _, _] x6x (HE.row rfl (by rw [List.take_zero]; rfl) (HE.box rfl rfl (HE.kill rfl (HE.kill rfl (HE.kill rfl HE.nil))))) rfl fun i γ1 hi => ?_
 refine dc 3 (fun K K' => aS ?_ ?_)<;>intro o<;>try simp at o
 ·obtain rfl : i = n.lanes.length := by omega
  refine dv 5 ?_
  exact ⟨[_], rfl, rfl, HE.row rfl (by rw [List.take_length]) HE.nil⟩
 obtain ⟨p, hp⟩ := gE n.lanes i
 refine dv 6 fun K K' => ?_
 refine x2x (id := 4) a0u a9j rfl (dv 5 ?_)
 refine y9y (out := .agg (a1v p.base)) rfl a7j rfl rfl ?_
 refine y5y (id := 5) d7a rfl a7j rfl rfl rfl rfl rfl rfl ?_
 refine y6y (zs := (n.lanes.take i ++ [p]).map fun l => a1v l.base) rfl rfl d7a rfl a7j rfl rfl rfl rfl (by rfl) (z8z _ _ _) (by (simp only [a0f, r7r, s3s, s6s, a0v, a3d, T41]; omega)) ?_
 refine dv 3 ?_
 refine u6u rfl rfl rfl (dv 1 ?_)
 exact ⟨i + 1, ⟨by omega, by omega⟩, [_, 0, 0, 0, _, _, _], (Cov.cons' (t := 22) rfl (by rw [y1y (by omega) (by omega)]; rfl) Cov.nil), x6x, (HE.row rfl (by rw [z7z hp]) (HE.box rfl rfl (HE.kill rfl (HE.kill rfl (HE.kill rfl HE.nil))))), x4x, rfl⟩
theorem c3r (c : Bool) (n : Nd) (hl : n.lanes.length ≤ 1048576) : Meth Tryz.prog 157 5 [0] [.agg [pI n.id, pI n.inc, pI n.g, pI n.led, .ref 0 0, a0g c n.kept, s0s c n.outs]] [(0, (0, .row 41 3 ((n.lanes).map fun l => a1v l.base))), (1, (0, .dead)), (2, (0, .dead)), (3, (0, .dead)), (4, (0, .dead))] (.ptr 4 0 0) [(4, (0, .box 164 [pI n.id, pI n.inc, pI n.g, pI n.led, .ref 0 0, a0g c n.kept, s0s c n.outs, .pv (.bool false), .ref 1 0, pI 0, .mp 2 0, .ref 3 0, pI 0, pI 41])), (1, (0, .row 42 1 ((n.lanes).map fun _ => [b2i c []]))), (2, (0, .map [])), (3, (0, .row 3 1 ([0, 0, 0].map a6f)))] := by
 refine mX Tryz.f157 [.ptr 4 0 0] 5 1 fun γ => ?_
 refine dv 1 ?_
 refine y2y (id := 5) rfl rfl rfl (dv 6 ?_)
 refine d7g (id := 1) c0k rfl a9i f3p rfl rfl rfl rfl (by (simp only [a0f, r7r, s3s, s6s, a0v, a3d, T42]; omega)) rfl ?_
 refine c4q (id := 2) rfl ?_
 refine d7g (n := 3) (id := 3) a0d rfl q9q f4g rfl rfl rfl rfl (by (simp only [a0f, r7r, s3s, s6s, a0v, a3d, T3]; omega)) rfl ?_
 refine rlB f0u f0x ?_
 refine y2y (id := 4) rfl rfl rfl (dv 1 ?_)
 refine b1w 1 (xs' := n.lanes.map fun _ => [.pv (.slice none 0 0)]) rfl (by simp [List.map_const', T42]) ?_
 refine c8p (f := fun _ => [.pv (.slice none 0 0)]) (f' := fun _ => [b2i c []]) (l := n.lanes) 1 rfl (fun _ => .le rfl .nil rfl .nil) ?_
 refine dv 1 ?_
 exact ⟨[γ 0, _, _, _, _], rfl, rfl, HE.box rfl rfl (HE.row rfl rfl (HE.map rfl rfl (HE.row rfl rfl (HE.same rfl HE.nil))))⟩
theorem b6z (c : Bool) (n : Nd) (hl : n.lanes.length ≤ 1048576) (hv : n.views.length ≤ 1048576) (hk3 : n.known.length = 3) : Meth Tryz.prog 125 5 [] [.agg (u0u c n)] [(0, (0, .dead)), (1, (0, .dead)), (2, (0, .dead)), (3, (0, .dead)), (4, (0, .dead))] (.ptr 4 0 0) [(0, (0, .row 41 3 ((n.lanes).map fun l => a1v l.base))), (1, (0, .row 42 1 ((n.lanes).map fun l => [b2i c l.done]))), (2, (0, .map (b9t c n.views))), (3, (0, .row 3 1 (n.known.map a6f))), (4, (0, .box 164 [pI n.id, pI n.inc, pI n.g, pI n.led, .ref 0 0, a0g c n.kept, s0s c n.outs, .pv (.bool n.up), .ref 1 0, pI n.version, .mp 2 0, .ref 3 0, pI n.round, pI n.low]))] := by
 refine a0m v7v (fn := Tryz.f125) (by kernel_rfl) (by kernel_rfl) rfl (O0 := [.ptr 4 0 0]) 5 3 (s2s rfl) (by rfl) (by repeat (first | exact BndH.nil | refine BndH.dead ?_ )) (by repeat (first | exact BndH.nil | refine BndH.box rfl ?_ | refine BndH.row (q7q fun _ => rfl) ?_ | refine BndH.map (a7u _ _) ?_ )) (by rfl) fun γ => ?_
 show Ex Tryz.prog _ _ [(0, .agg (u0u c n))] [(0, ((γ 0), .dead)), (1, ((γ 1), .dead)), (2, ((γ 2), .dead)), (3, ((γ 3), .dead)), (4, ((γ 4), .dead)), (7, (0, .dead)), (6, (0, .dead)), (5, (0, .dead))] _
 refine dv 1 ?_
 refine y2y (id := 5) rfl rfl rfl (dv 3 ?_)
 refine rlM [0] [_] (c7i c n hl) rfl rfl rfl ?_
 refine rlM [0, 1, 2, 3, 4] [_, _, _, _, _] (c3r c n hl) rfl rfl rfl ?_
 refine dv 8 fun K K' => ?_
 refine x5x (ι := Nat) (fun i γ1 => [(14, pI (i : Int))]) (fun i γ1 => [(1, ((γ 1 + 1), .row 42 1 ((n.lanes.take i).map (fun l => [b2i c l.done]) ++ (n.lanes.drop i).map fun _ => [b2i c []]))), (6, ((γ1 6), .dead))]) (fun i => i ≤ n.lanes.length) (fun i => n.lanes.length - i) (r3r [1, 3, 12, 13] rfl) (a1c [0, 2, 3, 4, 5, 7] rfl) 0 (by omega) [0, 0, 0, 0, 0, 0, _] x6x (HE.row rfl (by rw [List.take_zero, List.drop_zero]; rfl) (HE.kill rfl HE.nil)) rfl fun i γ1 hi => ?_
 refine dc 3 (fun K K' => aI ?_ ?_)<;>intro o<;>try simp at o
 ·obtain ⟨p, hp⟩ := gE n.lanes i
  have hAl : ((n.lanes.take i).map fun l => [b2i c l.done]).length = i := by rw [List.length_map, List.length_take]; omega
  rw [p3p hp, List.map_cons]
  refine dv 7 fun K K' => ?_
  refine x2x (id := 6) a0u a9j rfl (dv 10 ?_)
  refine c0t rfl rfl c0k rfl a9i rfl rfl hAl (d7z hAl rfl rfl a9i rfl rfl rfl rfl rfl rfl rfl rfl (dv 1 ?_))
  refine u6u rfl rfl rfl (dv 1 ?_)
  exact ⟨i + 1, ⟨by omega, by omega⟩, [0, 0, 0, 0, 0, 0, _], (Cov.cons' (t := 14) rfl (by rw [y1y (by omega) (by omega)]; rfl) Cov.nil), x6x, (HE.row rfl (by rw [z7z hp, List.map_append, List.append_assoc]; rfl) (HE.kill rfl HE.nil)), x4x, rfl⟩
 obtain rfl : i = n.lanes.length := by omega
 refine dv 8 fun K K' => ?_
 refine x5x (ι := Nat) (fun j γ2 => [(31, pI (j : Int))]) (fun j γ2 => [(2, ((γ 2 + 1), .map (b9t c (n.views.take j)))), (7, ((γ2 7), .dead))]) (fun j => j ≤ n.views.length) (fun j => n.views.length - j) (r3r [1, 3, 29, 30] rfl) (a1c [0, 1, 3, 4, 5, 6] rfl) 0 (by omega) [0, 0, 0, 0, 0, 0, 0, _] x6x (HE.map rfl (by rw [List.take_zero]; rfl) (HE.kill rfl HE.nil)) rfl fun j γ2 hi => ?_
 refine dc 3 (fun K K' => aI ?_ ?_)<;>intro o<;>try simp at o
 ·obtain ⟨q, hq⟩ := gE n.views j
  have hjl : (n.views.take j).length = j := by rw [List.length_take]; omega
  refine dv 7 fun K K' => ?_
  refine x2x (id := 7) a0c a9l rfl (dv 9 ?_)
  refine c8i (κ := Int) (enc := fun n => .int .i64 n) (ks := c3q j) (k := (j : Int)) (es' := b9t c (n.views.take j ++ [q])) Tryz.underlying162 (c8f Tryz.underlying3) rfl rfl rfl (fun _ _ _ h => f1h h) rfl (by rw [d0f, hjl]) (.inr ⟨e5b j, by rw [e1s, hjl]; try rfl⟩) ?_
  refine dv 1 ?_
  refine u6u rfl rfl rfl (dv 1 ?_)
  exact ⟨j + 1, ⟨by omega, by omega⟩, [0, 0, 0, 0, 0, 0, 0, _], (Cov.cons' (t := 31) rfl (by rw [y1y (by omega) (by omega)]; rfl) Cov.nil), x6x, (HE.map rfl (by rw [z7z hq]) (HE.kill rfl HE.nil)), x4x, rfl⟩
 obtain rfl : j = n.views.length := by omega
 refine dv 8 ?_
 refine e3b v7v (l := n.known) a0d rfl q9q rfl rfl rfl rfl (by rw [hk3]; rfl) ?_
 refine dv 29 ?_
 exact ⟨[_, _, _, _, _], rfl, rfl, HE.row rfl rfl (HE.row rfl (by rw [List.take_length, List.drop_length, List.map_nil, List.append_nil]) (HE.map rfl (by rw [List.take_length]) (HE.row rfl rfl (HE.box rfl rfl HE.nil))))⟩
end
section
theorem b9g (c : Bool) (n : Nd) (hs : (a0b n).length ≤ 5000000) (hlen : n.lanes.length ≤ 1048576) : Meth Tryz.prog 229 6 [0, 1, 2, 3, 4] [.ptr 4 0 0] [(0, (0, .row 41 3 ((n.lanes).map fun l => a1v l.base))), (1, (0, .row 42 1 ((n.lanes).map fun l => [b2i c l.done]))), (2, (0, .map (b9t c n.views))), (3, (0, .row 3 1 (n.known.map a6f))), (4, (0, .box 164 [pI n.id, pI n.inc, pI n.g, pI n.led, .ref 0 0, a0g c n.kept, s0s c n.outs, .pv (.bool n.up), .ref 1 0, pI n.version, .mp 2 0, .ref 3 0, pI n.round, pI n.low])), (5, (0, .dead))] (.ref 5 0) [(5, (0, .row 56 7 ((a0b n).map z2z)))] := by
 refine a0m v7v (fn := Tryz.f229) (by kernel_rfl) (by kernel_rfl) rfl (O0 := [.ref 5 0]) 6 2 (s2s rfl) (by rfl) (by repeat (first | exact BndH.nil | refine BndH.dead ?_ | refine BndH.box rfl ?_ | refine BndH.row (q7q fun _ => rfl) ?_ | refine BndH.map (a7u _ _) ?_ )) (by repeat (first | exact BndH.nil | refine BndH.row (q7q fun _ => rfl) ?_ )) (by rfl) fun γ => ?_
 show Ex Tryz.prog _ _ [(0, .ptr 4 (γ 4) 0)] [(0, ((γ 0), .row 41 3 ((n.lanes).map fun l => a1v l.base))), (1, ((γ 1), .row 42 1 ((n.lanes).map fun l => [b2i c l.done]))), (2, ((γ 2), .map (b9t c n.views))), (3, ((γ 3), .row 3 1 (n.known.map a6f))), (4, ((γ 4), .box 164 [pI n.id, pI n.inc, pI n.g, pI n.led, .ref 0 (γ 0), a0g c n.kept, s0s c n.outs, .pv (.bool n.up), .ref 1 (γ 1), pI n.version, .mp 2 (γ 2), .ref 3 (γ 3), pI n.round, pI n.low])), (5, ((γ 5), .dead)), (7, (0, .dead)), (6, (0, .dead))] _
 have hkl : n.kept.length ≤ 5000000 := by simp only [a0b, r7r] at hs; omega
 refine dv 8 ?_
 refine rlM [5] [_] (a0j c n.kept (by omega)) rfl rfl rfl ?_
 refine dv 10 fun K K' => ?_
 refine x5x (ι := Nat) (fun i γ1 => [(3, .ref 5 (γ1 5)), (19, pI (i : Int))]) (fun i γ1 => [(5, ((γ1 5), .row 56 7 ((n.kept ++ (n.lanes.take i).flatMap a6u).map z2z))), (6, ((γ1 6), .dead)), (7, ((γ1 7), .dead))]) (fun i => i ≤ n.lanes.length) (fun i => n.lanes.length - i) (r3r [17, 18] rfl) (a1c [0, 1, 2, 3, 4] rfl) 0 (by omega) [0, 0, 0, 0, 0, _, _, _] x6x (HE.row rfl (by simp) (HE.kill rfl (HE.kill rfl HE.nil))) rfl fun i γ1 hi => ?_
 refine dc 3 (fun K K' => aS ?_ ?_)<;>intro o<;>try simp at o
 ·obtain rfl : i = n.lanes.length := by omega
  refine dv 5 ?_
  exact ⟨[γ 0, γ 1, γ 2, γ 3, γ 4, _], rfl, rfl, HE.row rfl (by rw [List.take_length]; rfl) (a1c [0, 1, 2, 3, 4] rfl)⟩
 obtain ⟨p, hp⟩ := gE n.lanes i
 refine dv 4 fun K K' => ?_
 refine z0z (j := i) rfl rfl c0k rfl a9i rfl rfl (z1z hp) ?_
 refine dv 7 ?_
 refine w1w 23 rfl fun hlen2 => ?_
 refine x5x (ι := Nat) (fun j γ2 => [(3, .ref 5 (γ2 5)), (25, pI (j : Int))]) (fun j γ2 => [(5, ((γ2 5), .row 56 7 ((n.kept ++ (n.lanes.take i).flatMap a6u ++ (p.done.take j).flatMap Pa.sends).map z2z))), (6, ((γ2 6), .dead)), (7, ((γ2 7), .dead))]) (fun j => j ≤ p.done.length) (fun j => p.done.length - j) (r3r [17, 18, 19, 23, 24] rfl) (a1c [0, 1, 2, 3, 4] rfl) 0 (by omega) [0, 0, 0, 0, 0, _, _, _] x6x (HE.row rfl (by simp) (HE.kill rfl (HE.kill rfl HE.nil))) rfl fun j γ2 hi => ?_
 refine dc 3 (fun K K' => aS ?_ ?_)<;>intro o<;>try simp at o
 ·obtain rfl : j = p.done.length := by omega
  refine dv 2 ?_
  refine u6u rfl rfl rfl (dv 1 ?_)
  exact ⟨i + 1, ⟨by omega, by omega⟩, [0, 0, 0, 0, 0, _, _, _], (x8x 3 rfl (Cov.cons' (t := 19) rfl (by rw [y1y (by omega) (by omega)]; rfl) Cov.nil)), x6x, (HE.row rfl (by simp only [a3f hp, List.append_assoc, a6u, List.take_length]) (HE.kill rfl (HE.kill rfl HE.nil))), x4x, rfl⟩
 obtain ⟨q, hq⟩ := gE p.done j
 have hsp := c1g hp hq
 refine dv 6 fun K K' => ?_
 refine x2x (id := 6) a5g c3h rfl (dv 5 ?_)
 refine p2p (zs := (n.kept ++ (n.lanes.take i).flatMap a6u ++ (p.done.take j).flatMap Pa.sends ++ q.sends).map z2z) rfl rfl v2v rfl z3z rfl rfl rfl (z9z (fun _ => rfl) _) (a7m _ _ _) (by have hb56 : T56.bytes = 56 := rfl; rw [List.length_map, hb56]; omega) ?_
 refine dv 2 ?_
 refine u6u rfl rfl rfl (dv 1 ?_)
 exact ⟨j + 1, ⟨by omega, by omega⟩, [0, 0, 0, 0, 0, _, _, _], (x8x 3 rfl (Cov.cons' (t := 25) rfl (by rw [y1y (by omega) (by omega)]; rfl) Cov.nil)), (x8x 17 rfl (x8x 18 rfl (x8x 19 rfl (x8x 23 rfl (x8x 24 rfl Cov.nil))))), (HE.row rfl (by simp only [a3f hq, List.append_assoc]) (HE.kill rfl (HE.kill rfl HE.nil))), (w9w 0 rfl (w9w 1 rfl (w9w 2 rfl (w9w 3 rfl (w9w 4 rfl HE.nil))))), rfl⟩
theorem b7a (c : Bool) (n : Nd) (proc : Int) (e : Ev) : Meth Tryz.prog 231 7 [0, 1, 2, 3, 4, 5, 6] [.agg (z2z e), .ptr 5 0 0, .ptr 6 0 0] [(0, (0, .row 41 3 ((n.lanes).map fun l => a1v l.base))), (1, (0, .row 42 1 ((n.lanes).map fun l => [b2i c l.done]))), (2, (0, .map (b9t c n.views))), (3, (0, .row 3 1 (n.known.map a6f))), (4, (0, .box 164 [pI n.id, pI n.inc, pI n.g, pI n.led, .ref 0 0, a0g c n.kept, s0s c n.outs, .pv (.bool n.up), .ref 1 0, pI n.version, .mp 2 0, .ref 3 0, pI n.round, pI n.low])), (5, (0, .box 3 [pI proc])), (6, (0, .box 148 [.ptr 4 0 0]))] (.pv (.bool (a7q proc n.g e))) [] := by
 refine a0m v7v (fn := Tryz.f231) (by kernel_rfl) (by kernel_rfl) rfl (O0 := [.pv (.bool (a7q proc n.g e))]) 7 1 (s2s rfl) (by rfl) (by repeat (first | exact BndH.nil | refine BndH.box rfl ?_ | refine BndH.row (q7q fun _ => rfl) ?_ | refine BndH.map (a7u _ _) ?_ )) (by repeat (exact BndH.nil )) (by rfl) fun γ => ?_
 show Ex Tryz.prog _ _ [(0, .agg (z2z e)), (1, .ptr 5 (γ 5) 0), (2, .ptr 6 (γ 6) 0)] [(0, ((γ 0), .row 41 3 ((n.lanes).map fun l => a1v l.base))), (1, ((γ 1), .row 42 1 ((n.lanes).map fun l => [b2i c l.done]))), (2, ((γ 2), .map (b9t c n.views))), (3, ((γ 3), .row 3 1 (n.known.map a6f))), (4, ((γ 4), .box 164 [pI n.id, pI n.inc, pI n.g, pI n.led, .ref 0 (γ 0), a0g c n.kept, s0s c n.outs, .pv (.bool n.up), .ref 1 (γ 1), pI n.version, .mp 2 (γ 2), .ref 3 (γ 3), pI n.round, pI n.low])), (5, ((γ 5), .box 3 [pI proc])), (6, ((γ 6), .box 148 [.ptr 4 (γ 4) 0])), (7, (0, .dead))] _
 refine dv 1 ?_
 refine y2y (id := 7) rfl rfl rfl (dc 7 (aS ?_ ?_))<;>intro o<;>try simp at o
 ·refine dv 10 ?_
  exact ⟨[γ 0, γ 1, γ 2, γ 3, γ 4, γ 5, γ 6], rfl, congrArg (fun b : Bool => some [AV.pv (.bool b)]) ((decide_eq_false (by omega)).symm), x4x⟩
 refine dv 11 ?_
 exact ⟨[γ 0, γ 1, γ 2, γ 3, γ 4, γ 5, γ 6], rfl, congrArg (fun b : Bool => some [AV.pv (.bool b)]) (by exact decide_eq_decide.2 (by omega)), (w9w 0 rfl (w9w 1 rfl (w9w 2 rfl (w9w 3 rfl (w9w 4 rfl (w9w 5 rfl (w9w 6 rfl HE.nil)))))))⟩
theorem a7v (c : Bool) (n : Nd) (proc : Int) (l : List Ev) (hl : l.length ≤ 10000000) : Meth Tryz.prog 230 7 [0, 1, 2, 3, 4, 5, 6] [a0g true l, .fn (.func 231) [] [.ptr 5 0 0, .ptr 6 0 0]] [(0, (0, .row 41 3 ((n.lanes).map fun l => a1v l.base))), (1, (0, .row 42 1 ((n.lanes).map fun l => [b2i c l.done]))), (2, (0, .map (b9t c n.views))), (3, (0, .row 3 1 (n.known.map a6f))), (4, (0, .box 164 [pI n.id, pI n.inc, pI n.g, pI n.led, .ref 0 0, a0g c n.kept, s0s c n.outs, .pv (.bool n.up), .ref 1 0, pI n.version, .mp 2 0, .ref 3 0, pI n.round, pI n.low])), (5, (0, .box 3 [pI proc])), (6, (0, .box 148 [.ptr 4 0 0]))] (a0g true (l.filter (a7q proc n.g))) [] := by
 refine a0m v7v (fn := Tryz.f230) (by kernel_rfl) (by kernel_rfl) rfl (O0 := [a0g true (l.filter (a7q proc n.g))]) 7 4 (s2s rfl) (by rfl) (by repeat (first | exact BndH.nil | refine BndH.box rfl ?_ | refine BndH.row (q7q fun _ => rfl) ?_ | refine BndH.map (a7u _ _) ?_ )) (by repeat (exact BndH.nil )) (by rfl) fun γ => ?_
 show Ex Tryz.prog _ _ [(0, a0g true l), (1, .fn (.func 231) [] [.ptr 5 (γ 5) 0, .ptr 6 (γ 6) 0])] [(0, ((γ 0), .row 41 3 ((n.lanes).map fun l => a1v l.base))), (1, ((γ 1), .row 42 1 ((n.lanes).map fun l => [b2i c l.done]))), (2, ((γ 2), .map (b9t c n.views))), (3, ((γ 3), .row 3 1 (n.known.map a6f))), (4, ((γ 4), .box 164 [pI n.id, pI n.inc, pI n.g, pI n.led, .ref 0 (γ 0), a0g c n.kept, s0s c n.outs, .pv (.bool n.up), .ref 1 (γ 1), pI n.version, .mp 2 (γ 2), .ref 3 (γ 3), pI n.round, pI n.low])), (5, ((γ 5), .box 3 [pI proc])), (6, ((γ 6), .box 148 [.ptr 4 (γ 4) 0])), (10, (0, .dead)), (9, (0, .dead)), (8, (0, .dead)), (7, (0, .dead))] _
 refine dv 10 fun K K' => ?_
 refine a7k 5 10 56 7 rfl rfl ?_
 refine x5x (ι := Nat) (fun i γ1 => [(5, .ref 10 (γ1 10)), (10, pI (i : Int))]) (fun i γ1 => [(10, ((γ1 10), .row 56 7 (((l.take i).filter (a7q proc n.g)).map z2z))), (7, ((γ1 7), .dead)), (8, ((γ1 8), .dead)), (9, ((γ1 9), .dead))]) (fun i => i ≤ l.length) (fun i => l.length - i) (r3r [1, 8, 9] rfl) (a1c [0, 1, 2, 3, 4, 5, 6] rfl) 0 (by omega) [0, 0, 0, 0, 0, 0, 0, _, _, _, _] x6x (HE.row rfl (by rw [List.take_zero]; rfl) (HE.kill rfl (HE.kill rfl (HE.kill rfl HE.nil)))) rfl fun i γ1 hi => ?_
 refine dc 3 (fun K K' => aS ?_ ?_)<;>intro o<;>try simp at o
 ·obtain rfl : i = l.length := by omega
  rw [List.take_length]
  refine dv 1 ?_
  refine r1r 5 rfl rfl (fun _ => rfl) ?_
  refine dv 4 ?_
  exact ⟨[γ 0, γ 1, γ 2, γ 3, γ 4, γ 5, γ 6], rfl, rfl, x4x⟩
 obtain ⟨p, hp⟩ := gE l i
 have hfl : ((l.take i).filter (a7q proc n.g)).length ≤ 10000000 := Nat.le_trans (List.length_filter_le _ _) (by rw [List.length_take]; omega)
 refine dv 6 fun K K' => ?_
 refine x2x (id := 7) z3z a8c rfl (dv 4 ?_)
 refine rlM [0, 1, 2, 3, 4, 5, 6] [_, _, _, _, _, _, _] (b7a c n proc p) rfl rfl rfl ?_
 refine dc 0 (aS ?_ ?_)<;>intro hc5<;>try simp at hc5
 ·have hw : ¬ a7q proc n.g p = true := by rw [hc5]; decide
  refine dv 2 ?_
  refine u6u rfl rfl rfl (dv 1 ?_)
  exact ⟨i + 1, ⟨by omega, by omega⟩, [0, 0, 0, 0, 0, 0, 0, _, _, _, _], (x8x 5 rfl (Cov.cons' (t := 10) rfl (by rw [y1y (by omega) (by omega)]; rfl) Cov.nil)), x6x, (HE.row rfl (by rw [r6r hp]; rw [if_neg hw, List.append_nil]) (HE.kill rfl (HE.kill rfl (HE.kill rfl HE.nil)))), x4x, rfl⟩
 have hw : a7q proc n.g p = true := hc5
 refine dv 3 ?_
 refine y5y (id := 8) v2v rfl z3z rfl rfl rfl rfl rfl rfl ?_
 refine y6y (zs := ((l.take i).filter (a7q proc n.g) ++ [p]).map z2z) rfl rfl v2v rfl z3z rfl rfl rfl rfl (by rfl) (z8z _ _ _) (by (simp only [a0f, r7r, s3s, s6s, a0v, a3d, T56]; omega)) ?_
 refine dv 2 ?_
 refine u6u rfl rfl rfl (dv 1 ?_)
 exact ⟨i + 1, ⟨by omega, by omega⟩, [0, 0, 0, 0, 0, 0, 0, _, _, _, _], (x8x 5 rfl (Cov.cons' (t := 10) rfl (by rw [y1y (by omega) (by omega)]; rfl) Cov.nil)), (x8x 1 rfl (x8x 8 rfl (x8x 9 rfl Cov.nil))), (HE.row rfl (by rw [r6r hp]; rw [if_pos hw]) (HE.kill rfl (HE.kill rfl (HE.kill rfl HE.nil)))), (w9w 0 rfl (w9w 1 rfl (w9w 2 rfl (w9w 3 rfl (w9w 4 rfl (w9w 5 rfl (w9w 6 rfl HE.nil))))))), rfl⟩
theorem b9h (c : Bool) (n : Nd) (proc : Int) (hs : (a0b n).length + (s5s n 3).length ≤ 5000000) (hlen : n.lanes.length ≤ 1048576) (hv3 : n.views.length = 3) : Meth Tryz.prog 126 6 [0, 1, 2, 3, 4] [.ptr 4 0 0, .pv (.int .i64 proc)] [(0, (0, .row 41 3 ((n.lanes).map fun l => a1v l.base))), (1, (0, .row 42 1 ((n.lanes).map fun l => [b2i c l.done]))), (2, (0, .map (b9t c n.views))), (3, (0, .row 3 1 (n.known.map a6f))), (4, (0, .box 164 [pI n.id, pI n.inc, pI n.g, pI n.led, .ref 0 0, a0g c n.kept, s0s c n.outs, .pv (.bool n.up), .ref 1 0, pI n.version, .mp 2 0, .ref 3 0, pI n.round, pI n.low])), (5, (0, .dead))] (.ref 5 0) [(5, (0, .row 56 7 ((a1g n proc).map z2z)))] := by
 refine a0m v7v (fn := Tryz.f126) (by kernel_rfl) (by kernel_rfl) rfl (O0 := [.ref 5 0]) 6 4 (s2s rfl) (by rfl) (by repeat (first | exact BndH.nil | refine BndH.dead ?_ | refine BndH.box rfl ?_ | refine BndH.row (q7q fun _ => rfl) ?_ | refine BndH.map (a7u _ _) ?_ )) (by repeat (first | exact BndH.nil | refine BndH.row (q7q fun _ => rfl) ?_ )) (by rfl) fun γ => ?_
 show Ex Tryz.prog _ _ [(0, .ptr 4 (γ 4) 0), (1, .pv (.int .i64 proc))] [(0, ((γ 0), .row 41 3 ((n.lanes).map fun l => a1v l.base))), (1, ((γ 1), .row 42 1 ((n.lanes).map fun l => [b2i c l.done]))), (2, ((γ 2), .map (b9t c n.views))), (3, ((γ 3), .row 3 1 (n.known.map a6f))), (4, ((γ 4), .box 164 [pI n.id, pI n.inc, pI n.g, pI n.led, .ref 0 (γ 0), a0g c n.kept, s0s c n.outs, .pv (.bool n.up), .ref 1 (γ 1), pI n.version, .mp 2 (γ 2), .ref 3 (γ 3), pI n.round, pI n.low])), (5, ((γ 5), .dead)), (9, (0, .dead)), (8, (0, .dead)), (7, (0, .dead)), (6, (0, .dead))] _
 refine dv 1 ?_
 refine d0w (id := 6) rfl rfl rfl rfl (d0w (id := 7) rfl rfl rfl rfl (dv 3 ?_))
 refine rlM [0, 1, 2, 3, 4, 9] [_, _, _, _, _, _] (b9g c n (by omega) hlen) rfl rfl rfl ?_
 refine dv 5 fun K K' => ?_
 refine x5x (ι := Nat) (fun i γ1 => [(5, .ref 9 (γ1 9)), (9, pI (i : Int))]) (fun i γ1 => [(9, ((γ1 9), .row 56 7 ((a0b n ++ s5s n i).map z2z))), (8, ((γ1 8), .dead))]) (fun i => i ≤ 3) (fun i => 3 - i) (r3r [2, 3] rfl) (a1c [0, 1, 2, 3, 4, 5, 6, 7] rfl) 0 (by omega) [0, 0, 0, 0, 0, 0, 0, 0, _, _] x6x (HE.row rfl (by simp [s5s]) (HE.kill rfl HE.nil)) rfl fun i γ1 hi => ?_
 refine dc 3 (fun K K' => aS ?_ ?_)<;>intro o<;>try simp at o
 ·obtain rfl : i = 3 := by omega
  refine dv 1 ?_
  refine r1r 5 rfl rfl (fun _ => rfl) ?_
  refine dv 2 ?_
  refine c0u rfl rfl ?_
  refine rlM [0, 1, 2, 3, 4, 7, 6] [_, _, _, _, _, _, _] (a7v c n proc _ (by rw [List.length_append]; omega)) rfl rfl rfl ?_
  refine rlM [5] [_] (b1c true _ (Nat.le_trans (List.length_filter_le _ _) (by rw [List.length_append]; omega))) rfl rfl rfl ?_
  refine dv 2 ?_
  exact ⟨[γ 0, γ 1, γ 2, γ 3, γ 4, _], rfl, rfl, x4x⟩
 obtain ⟨v, hv⟩ := gE n.views i
 have hg : n.views.getD i vi0 = v := by rw [List.getD_eq_getElem?_getD, hv]; rfl
 have hol := c8x n (i := i + 1) (by omega)
 rw [a2i] at hol
 refine dc 14 (fun K K' => aS ?_ ?_)<;>intro hc5<;>try simp at hc5
 ·have hve : b2a n i = [] := by rw [b2a, if_pos hc5]
  refine dv 2 ?_
  refine u6u rfl rfl rfl (dv 1 ?_)
  exact ⟨i + 1, ⟨by omega, by omega⟩, [0, 0, 0, 0, 0, 0, 0, 0, _, _], (x8x 5 rfl (Cov.cons' (t := 9) rfl (by rw [y1y (by omega) (by omega)]; rfl) Cov.nil)), x6x, (HE.row rfl (by rw [a2i, hve]; simp) (HE.kill rfl HE.nil)), x4x, rfl⟩
 have hve : b2a n i = v.events := by rw [b2a, if_neg hc5, hg]
 rw [hve] at hol
 simp only [r7r] at hol
 refine dv 7 ?_
 refine a5w (κ := Int) (enc := fun n => .int .i64 n) (ks := c3q n.views.length) (k := (i : Int)) (out := .agg (a3x c v)) v7v Tryz.underlying162 (c8f Tryz.underlying3) rfl rfl (fun _ _ _ h => f1h h) rfl (d0f _ _) (e1t hv) ?_
 refine dv 1 ?_
 refine p2p (zs := (a0b n ++ s5s n i ++ v.events).map z2z) rfl rfl v2v rfl z3z rfl rfl rfl (z9z (fun _ => rfl) _) (a7m _ _ _) (by have hb56 : T56.bytes = 56 := rfl; rw [List.length_map, hb56]; simp only [r7r]; omega) ?_
 refine dv 2 ?_
 refine u6u rfl rfl rfl (dv 1 ?_)
 exact ⟨i + 1, ⟨by omega, by omega⟩, [0, 0, 0, 0, 0, 0, 0, 0, _, _], (x8x 5 rfl (Cov.cons' (t := 9) rfl (by rw [y1y (by omega) (by omega)]; rfl) Cov.nil)), x6x, (HE.row rfl (by rw [a2i, hve]; simp) (HE.kill rfl HE.nil)), x4x, rfl⟩
end
section
theorem b7c (c : Bool) (n : Nd) (hs : (a0b n).length ≤ 5000000) (hlen : n.lanes.length ≤ 1048576) : Meth Tryz.prog 229 6 [0, 1, 2, 3, 4] [.ptr 4 0 0] [(0, (0, .row 41 3 ((n.lanes).map fun l => a1v l.base))), (1, (0, .row 42 1 ((n.lanes).map fun l => [b2i c l.done]))), (2, (0, .map (b9t c n.views))), (3, (0, .row 3 1 (n.known.map a6f))), (4, (0, .box 164 [pI n.id, pI n.inc, pI n.g, pI n.led, .ref 0 0, a0g c n.kept, s0s c n.outs, .pv (.bool n.up), .ref 1 0, pI n.version, .mp 2 0, .ref 3 0, pI n.round, pI n.low])), (5, (0, .dead))] (a0g true (a0b n)) [(5, (0, .dead))] := by
 refine a0m v7v (fn := Tryz.f229) (by kernel_rfl) (by kernel_rfl) rfl (O0 := [a0g true (a0b n)]) 6 2 (s2s rfl) (by rfl) (by repeat (first | exact BndH.nil | refine BndH.dead ?_ | refine BndH.box rfl ?_ | refine BndH.row (q7q fun _ => rfl) ?_ | refine BndH.map (a7u _ _) ?_ )) (by repeat (first | exact BndH.nil | refine BndH.dead ?_ )) (by rfl) fun γ => ?_
 show Ex Tryz.prog _ _ [(0, .ptr 4 (γ 4) 0)] [(0, ((γ 0), .row 41 3 ((n.lanes).map fun l => a1v l.base))), (1, ((γ 1), .row 42 1 ((n.lanes).map fun l => [b2i c l.done]))), (2, ((γ 2), .map (b9t c n.views))), (3, ((γ 3), .row 3 1 (n.known.map a6f))), (4, ((γ 4), .box 164 [pI n.id, pI n.inc, pI n.g, pI n.led, .ref 0 (γ 0), a0g c n.kept, s0s c n.outs, .pv (.bool n.up), .ref 1 (γ 1), pI n.version, .mp 2 (γ 2), .ref 3 (γ 3), pI n.round, pI n.low])), (5, ((γ 5), .dead)), (7, (0, .dead)), (6, (0, .dead))] _
 have hkl : n.kept.length ≤ 5000000 := by simp only [a0b, r7r] at hs; omega
 refine dv 8 ?_
 refine rlM [5] [_] (a0j c n.kept (by omega)) rfl rfl rfl ?_
 refine dv 10 fun K K' => ?_
 refine x5x (ι := Nat) (fun i γ1 => [(3, .ref 5 (γ1 5)), (19, pI (i : Int))]) (fun i γ1 => [(5, ((γ1 5), .row 56 7 ((n.kept ++ (n.lanes.take i).flatMap a6u).map z2z))), (6, ((γ1 6), .dead)), (7, ((γ1 7), .dead))]) (fun i => i ≤ n.lanes.length) (fun i => n.lanes.length - i) (r3r [17, 18] rfl) (a1c [0, 1, 2, 3, 4] rfl) 0 (by omega) [0, 0, 0, 0, 0, _, _, _] x6x (HE.row rfl (by simp) (HE.kill rfl (HE.kill rfl HE.nil))) rfl fun i γ1 hi => ?_
 refine dc 3 (fun K K' => aS ?_ ?_)<;>intro h<;>try simp at h
 ·obtain rfl : i = n.lanes.length := by omega
  refine dv 4 ?_
  refine r1r 2 rfl rfl (fun _ => rfl) ?_
  refine dv 1 ?_
  exact ⟨[γ 0, γ 1, γ 2, γ 3, γ 4, _], rfl, congrArg (fun l : List Ev => some [a0g true l]) (by rw [List.take_length]; rfl), x4x⟩
 obtain ⟨p, hp⟩ := gE n.lanes i
 refine dv 4 fun K K' => ?_
 refine z0z (j := i) rfl rfl c0k rfl a9i rfl rfl (z1z hp) ?_
 refine dv 7 ?_
 refine w1w 23 rfl fun hlen2 => ?_
 refine x5x (ι := Nat) (fun j γ2 => [(3, .ref 5 (γ2 5)), (25, pI (j : Int))]) (fun j γ2 => [(5, ((γ2 5), .row 56 7 ((n.kept ++ (n.lanes.take i).flatMap a6u ++ (p.done.take j).flatMap Pa.sends).map z2z))), (6, ((γ2 6), .dead)), (7, ((γ2 7), .dead))]) (fun j => j ≤ p.done.length) (fun j => p.done.length - j) (r3r [17, 18, 19, 23, 24] rfl) (a1c [0, 1, 2, 3, 4] rfl) 0 (by omega) [0, 0, 0, 0, 0, _, _, _] x6x (HE.row rfl (by simp) (HE.kill rfl (HE.kill rfl HE.nil))) rfl fun j γ2 hi => ?_
 refine dc 3 (fun K K' => aS ?_ ?_)<;>intro h<;>try simp at h
 ·obtain rfl : j = p.done.length := by omega
  refine dv 2 ?_
  refine u6u rfl rfl rfl (dv 1 ?_)
  exact ⟨i + 1, ⟨by omega, by omega⟩, [0, 0, 0, 0, 0, _, _, _], (x8x 3 rfl (Cov.cons' (t := 19) rfl (by rw [y1y (by omega) (by omega)]; rfl) Cov.nil)), x6x, (HE.row rfl (by simp only [a3f hp, List.append_assoc, a6u, List.take_length]) (HE.kill rfl (HE.kill rfl HE.nil))), x4x, rfl⟩
 obtain ⟨q, hq⟩ := gE p.done j
 have hsp := c1g hp hq
 refine dv 6 fun K K' => ?_
 refine x2x (id := 6) a5g c3h rfl (dv 5 ?_)
 refine p2p (zs := (n.kept ++ (n.lanes.take i).flatMap a6u ++ (p.done.take j).flatMap Pa.sends ++ q.sends).map z2z) rfl rfl v2v rfl z3z rfl rfl rfl (z9z (fun _ => rfl) _) (a7m _ _ _) (by have hb56 : T56.bytes = 56 := rfl; rw [List.length_map, hb56]; omega) ?_
 refine dv 2 ?_
 refine u6u rfl rfl rfl (dv 1 ?_)
 exact ⟨j + 1, ⟨by omega, by omega⟩, [0, 0, 0, 0, 0, _, _, _], (x8x 3 rfl (Cov.cons' (t := 25) rfl (by rw [y1y (by omega) (by omega)]; rfl) Cov.nil)), x6x, (HE.row rfl (by simp only [a3f hq, List.append_assoc]) (HE.kill rfl (HE.kill rfl HE.nil))), x4x, rfl⟩
theorem b5p (to kn : Int) (e : Ev) : Meth Tryz.prog 240 2 [0, 1] [.agg (z2z e), .ptr 0 0 0, .ptr 1 0 0] [(0, (0, .box 3 [pI to])), (1, (0, .box 3 [pI kn]))] (.pv (.bool (a6i to kn e))) [] := by
 refine mX Tryz.f240 [.pv (.bool (a6i to kn e))] 2 1 fun γ => ?_
 refine dv 1 ?_
 refine y2y (id := 2) rfl rfl rfl (dv 4 ?_)
 refine x0x rfl rfl rfl (b0t ..) (dc 3 (aS ?_ ?_))<;>intro h<;>try simp at h
 ·refine dv 6 ?_
  exact ⟨[γ 0, γ 1], rfl, congrArg (fun b : Bool => some [AV.pv (.bool b)]) ((decide_eq_false (by omega)).symm), x4x⟩
 refine dv 7 ?_
 exact ⟨[γ 0, γ 1], rfl, congrArg (fun b : Bool => some [AV.pv (.bool b)]) (decide_eq_decide.2 (by omega)), x4x⟩
theorem a6z (to kn : Int) (l : List Ev) (hl : l.length ≤ 10000000) : Meth Tryz.prog 230 2 [0, 1] [a0g true l, .fn (.func 240) [] [.ptr 0 0 0, .ptr 1 0 0]] [(0, (0, .box 3 [pI to])), (1, (0, .box 3 [pI kn]))] (a0g true (l.filter (a6i to kn))) [] := by
 refine mX Tryz.f230 [a0g true (l.filter (a6i to kn))] 2 4 fun γ => ?_
 refine dv 10 fun K K' => ?_
 refine a7k 5 5 56 7 rfl rfl ?_
 refine x5x (ι := Nat) (fun i γ1 => [(5, .ref 5 (γ1 5)), (10, pI (i : Int))]) (fun i γ1 => [(5, ((γ1 5), .row 56 7 (((l.take i).filter (a6i to kn)).map z2z))), (2, ((γ1 2), .dead)), (3, ((γ1 3), .dead)), (4, ((γ1 4), .dead))]) (fun i => i ≤ l.length) (fun i => l.length - i) (r3r [1, 8, 9] rfl) (a1c [0, 1] rfl) 0 (by omega) [0, 0, _, _, _, _] x6x (HE.row rfl (by rw [List.take_zero]; rfl) (HE.kill rfl (HE.kill rfl (HE.kill rfl HE.nil)))) rfl fun i γ1 hi => ?_
 refine dc 3 (fun K K' => aS ?_ ?_)<;>intro h<;>try simp at h
 ·obtain rfl : i = l.length := by omega
  rw [List.take_length]
  refine dv 1 ?_
  refine r1r 5 rfl rfl (fun _ => rfl) ?_
  refine dv 4 ?_
  exact ⟨[γ 0, γ 1], rfl, rfl, x4x⟩
 obtain ⟨p, hp⟩ := gE l i
 have hfl : ((l.take i).filter (a6i to kn)).length ≤ 10000000 := Nat.le_trans (List.length_filter_le _ _) (by rw [List.length_take]; omega)
 refine dv 6 fun K K' => ?_
 refine x2x (id := 2) z3z a8c rfl (dv 4 ?_)
 refine rlM [0, 1] [_, _] (b5p to kn p) rfl rfl rfl ?_
 refine dc 0 (aS ?_ ?_)<;>intro hc5<;>try simp at hc5
 ·have hw : ¬ a6i to kn p = true := by rw [hc5]; decide
  refine dv 2 ?_
  refine u6u rfl rfl rfl (dv 1 ?_)
  exact ⟨i + 1, ⟨by omega, by omega⟩, [0, 0, _, _, _, _], (x8x 5 rfl (Cov.cons' (t := 10) rfl (by rw [y1y (by omega) (by omega)]; rfl) Cov.nil)), x6x, (HE.row rfl (by rw [r6r hp]; rw [if_neg hw, List.append_nil]) (HE.kill rfl (HE.kill rfl (HE.kill rfl HE.nil)))), x4x, rfl⟩
 have hw : a6i to kn p = true := hc5
 refine dv 3 ?_
 refine y5y (id := 3) v2v rfl z3z rfl rfl rfl rfl rfl rfl ?_
 refine y6y (zs := ((l.take i).filter (a6i to kn) ++ [p]).map z2z) rfl rfl v2v rfl z3z rfl rfl rfl rfl (by rfl) (z8z _ _ _) (by (simp only [a0f, r7r, s3s, s6s, a0v, a3d, T56] at *; omega)) ?_
 refine dv 2 ?_
 refine u6u rfl rfl rfl (dv 1 ?_)
 exact ⟨i + 1, ⟨by omega, by omega⟩, [0, 0, _, _, _, _], (x8x 5 rfl (Cov.cons' (t := 10) rfl (by rw [y1y (by omega) (by omega)]; rfl) Cov.nil)), (x8x 1 rfl (x8x 8 rfl (x8x 9 rfl Cov.nil))), (HE.row rfl (by rw [r6r hp]; rw [if_pos hw]) (HE.kill rfl (HE.kill rfl (HE.kill rfl HE.nil)))), (w9w 0 rfl (w9w 1 rfl HE.nil)), rfl⟩
theorem b8m (c : Bool) (n : Nd) (t : Nat) (ht : t < 3) (hk3 : n.known.length = 3) (hs : (a0b n).length ≤ 5000000) (hlen : n.lanes.length ≤ 1048576) : Meth Tryz.prog 138 6 [0, 1, 2, 3, 4] [.ptr 4 0 0, .pv (.int .i64 (t : Int))] [(0, (0, .row 41 3 ((n.lanes).map fun l => a1v l.base))), (1, (0, .row 42 1 ((n.lanes).map fun l => [b2i c l.done]))), (2, (0, .map (b9t c n.views))), (3, (0, .row 3 1 (n.known.map a6f))), (4, (0, .box 164 [pI n.id, pI n.inc, pI n.g, pI n.led, .ref 0 0, a0g c n.kept, s0s c n.outs, .pv (.bool n.up), .ref 1 0, pI n.version, .mp 2 0, .ref 3 0, pI n.round, pI n.low])), (5, (0, .dead))] (.ref 5 0) [(5, (0, .row 56 7 ((a1q n (t : Int)).map z2z)))] := by
 refine a0m v7v (fn := Tryz.f138) (by kernel_rfl) (by kernel_rfl) rfl (O0 := [.ref 5 0]) 6 3 (s2s rfl) (by rfl) (by repeat (first | exact BndH.nil | refine BndH.dead ?_ | refine BndH.box rfl ?_ | refine BndH.row (q7q fun _ => rfl) ?_ | refine BndH.map (a7u _ _) ?_ )) (by repeat (first | exact BndH.nil | refine BndH.row (q7q fun _ => rfl) ?_ )) (by rfl) fun γ => ?_
 show Ex Tryz.prog _ _ [(0, .ptr 4 (γ 4) 0), (1, .pv (.int .i64 (t : Int)))] [(0, ((γ 0), .row 41 3 ((n.lanes).map fun l => a1v l.base))), (1, ((γ 1), .row 42 1 ((n.lanes).map fun l => [b2i c l.done]))), (2, ((γ 2), .map (b9t c n.views))), (3, ((γ 3), .row 3 1 (n.known.map a6f))), (4, ((γ 4), .box 164 [pI n.id, pI n.inc, pI n.g, pI n.led, .ref 0 (γ 0), a0g c n.kept, s0s c n.outs, .pv (.bool n.up), .ref 1 (γ 1), pI n.version, .mp 2 (γ 2), .ref 3 (γ 3), pI n.round, pI n.low])), (5, ((γ 5), .dead)), (8, (0, .dead)), (7, (0, .dead)), (6, (0, .dead))] _
 obtain ⟨kn, hkn⟩ := gE n.known t
 refine dv 1 ?_
 refine d0w (id := 6) rfl rfl rfl rfl (dv 7 ?_)
 refine z0z (j := t) rfl rfl a0d rfl q9q rfl rfl (z1z hkn) ?_
 refine dv 1 ?_
 refine x2x (id := 7) q9q f4g rfl (dv 3 ?_)
 refine rlM [0, 1, 2, 3, 4, 8] [_, _, _, _, _, _] (b7c c n hs hlen) rfl rfl rfl ?_
 refine c0u rfl rfl ?_
 refine rlM [6, 7] [_, _] (a6z (t : Int) kn _ (by omega)) rfl rfl rfl ?_
 refine rlM [5] [_] (b1c true _ (Nat.le_trans (List.length_filter_le _ _) (by omega))) rfl rfl rfl ?_
 refine dv 2 ?_
 exact ⟨[γ 0, γ 1, γ 2, γ 3, γ 4, _], rfl, rfl, HE.row rfl (by rw [c1i hkn]) (a1c [0, 1, 2, 3, 4] rfl)⟩
end
section
theorem b9i (c : Bool) (p : Pa) (ps : List Pa) : Meth Tryz.prog 236 1 [0] [.ptr 0 0 0, .agg (a1w c p)] [(0, (0, .chn 256 259 ((ps).map (a1w c))))] (.tup []) [(0, (0, .chn 256 259 ((ps ++ [p]).map (a1w c))))] := by
 refine a0m v7v (fn := Tryz.f236) (by kernel_rfl) (by kernel_rfl) rfl (O0 := []) 1 2 (s2s rfl) (by rfl) (by repeat (first | exact BndH.nil | refine BndH.chn ?_)) (by repeat (first | exact BndH.nil | refine BndH.chn ?_)) (by rfl) fun γ => ?_
 show Ex Tryz.prog _ _ [(0, .ptr 0 (γ 0) 0), (1, .agg (a1w c p))] [(0, ((γ 0), .chn 256 259 ((ps).map (a1w c)))), (2, (0, .dead)), (1, (0, .dead))] _
 refine e7p ?_
 refine e5u 0 rfl fun b0 bs hbl hbn => ?_
 have hbl2 : bs.length = ps.length := by rw [hbl, List.length_map]
 refine b3o v7v (by rfl) ?_
 refine y2y (id := 1) rfl rfl rfl ?_
 refine b3o v7v (by rfl) ?_
 refine b8t rfl a5g rfl rfl rfl ?_
 refine c5p d2t rfl f1a rfl (by simp only [pI, a5g, T58, a5e, f2u, b4k, s7s, AV.okc, AV.one, Value.oneCell', List.map_cons, List.map_nil, List.getElem?_cons_zero, List.getElem?_cons_succ, List.take_succ_cons, List.take_zero, List.drop_succ_cons, List.drop_zero, List.cons_append, List.nil_append, List.length_cons, List.length_nil, if_true, and_self, Nat.reduceAdd, Nat.reduceLeDiff]; rfl) ?_
 refine y2y (id := 2) rfl rfl rfl ?_
 refine w7w rfl ?_
 refine a4t fun K1 hK1 => ?_
 refine d8n 4 0 2 rfl rfl (by intro h; cases h) rfl rfl rfl fun bn hbn2 => ?_
 refine b3o v7v (by rfl) ?_
 refine v5v rfl ?_
 refine b8u rfl rfl ?_
 refine v1v rfl c0l rfl rfl a5e rfl rfl ?_
 refine c5z v7v (out := .pv (b3m bs.getLast?)) rfl a5e rfl rfl ?_
 refine c3i rfl rfl (by intro a c h h2; cases h; cases h2; rfl) (.inl rfl) (d8e (by kernel_rfl) _ _ _) ?_
 refine a0z rfl (fun hc2 => ?_) (fun hc2 => ?_)
 ·try simp at hc2
  obtain rfl : bs = [] := by cases bs with | nil => rfl | cons b r => (simp [List.getLast?_cons, a7i] at hc2)
  obtain rfl : ps = [] := List.eq_nil_of_length_eq_zero (by simpa using hbl2.symm)
  refine a2j v7v (by rfl) ?_
  refine v5v rfl ?_
  refine v5v rfl ?_
  refine b8u rfl rfl ?_
  refine v1v rfl c0l rfl rfl a5e rfl rfl ?_
  refine c0v v7v rfl rfl a5e rfl rfl rfl rfl rfl ?_
  refine hK1 _ _ ?_
  clear hK1 K1
  refine a2j v7v (by rfl) ?_
  refine v5v rfl ?_
  refine v5v rfl ?_
  refine b8u rfl rfl ?_
  refine v1v rfl c0l rfl rfl a5e rfl rfl ?_
  refine c0v v7v rfl rfl a5e rfl rfl rfl rfl rfl ?_
  refine Conv.step (c5x 0 b0 256 259 ([bn]) ([a1w c p]) rfl rfl rfl) (Conv.done ?_)
  exact ⟨.inl rfl, [γ 0], rfl, rfl, HE.same rfl HE.nil⟩
 try simp at hc2
 obtain ⟨bs0, bl, rfl⟩ := d8l (l := bs) (by exact hc2)
 obtain ⟨ps0, pl, rfl⟩ := d8l (l := ps) (by rintro rfl; simp at hbl2)
 refine a2j v7v (by rfl) ?_
 refine v5v rfl ?_
 refine b8u rfl rfl ?_
 refine v1v rfl c0l rfl rfl a5e rfl rfl ?_
 refine c5z v7v (out := PQ bl 0) rfl a5e rfl (by rw [List.getLast?_concat]; rfl) ?_
 refine v5v rfl ?_
 refine d1c rfl ?_
 refine a6s v7v rfl d2t rfl rfl a5e rfl ?_
 refine d8o v7v (bty := 259) ((b0, 256, [.pv (b3m (bs0 ++ [bl]).head?), .pv (b3m (bs0 ++ [bl]).getLast?)]) :: d0j 259 (some bl) bs0 (ps0.map (a1w c))) [(bn, 259, a1w c p ++ [.pv (.pointer none)])] (cs := a1w c pl ++ [.pv (.pointer none)]) 0 rfl rfl a5e rfl rfl rfl (by rw [chB, List.map_append, List.map_cons, List.map_nil, c8o (by rw [List.length_map]; simpa using hbl2)]; simp [b3m]) (s2s rfl) rfl ?_
 refine hK1 _ _ ?_
 clear hK1 K1
 refine a2j v7v (by rfl) ?_
 refine v5v rfl ?_
 refine v5v rfl ?_
 refine b8u rfl rfl ?_
 refine v1v rfl c0l rfl rfl a5e rfl rfl ?_
 refine c0v v7v rfl rfl a5e rfl rfl rfl rfl rfl ?_
 refine Conv.step (c5x 0 b0 256 259 (bs0 ++ [bl] ++ [bn]) (((ps0 ++ [pl]) ++ [p]).map (a1w c)) rfl (by simp at hbl2 ⊢; exact hbl2) (by rw [List.map_append, List.map_cons (l := []), List.map_nil, e3d (by rw [List.length_map]; exact hbl2), List.map_append, List.map_cons, List.map_nil, c8o (by rw [List.length_map]; simpa using hbl2)]; cases bs0 <;> simp [b3m] <;> rfl)) (Conv.done ?_)
 exact ⟨.inl rfl, [γ 0], rfl, rfl, HE.same rfl HE.nil⟩
theorem c3s (c : Bool) (l : List Pa) : Meth Tryz.prog 131 1 [] [b2i c l] [(0, (0, .dead))] (.ptr 0 0 0) [(0, (0, .chn 256 259 ((l).map (a1w c))))] := by
 refine a0m v7v (fn := Tryz.f131) (by kernel_rfl) (by kernel_rfl) rfl (O0 := [.ptr 0 0 0]) 1 1 (s2s rfl) (by rfl) (by repeat (first | exact BndH.nil | refine BndH.dead ?_)) (by repeat (first | exact BndH.nil | refine BndH.chn ?_)) (by rfl) fun γ => ?_
 show Ex Tryz.prog _ _ [(0, b2i c l)] [(0, ((γ 0), .dead)), (1, (0, .dead))] _
 refine w1w 0 rfl fun hlen => ?_
 refine b3o v7v (by rfl) ?_
 refine w7w rfl ?_
 refine b3o v7v (by rfl) ?_
 refine c5p c0l rfl f0z rfl (by simp only [pI, b4k, s7s, AV.okc, AV.one, T3, T4, List.getElem?_cons_zero, List.getElem?_cons_succ, List.take_succ_cons, List.take_zero, List.drop_succ_cons, List.drop_zero, List.cons_append, List.nil_append, List.length_cons, List.length_nil, if_true, and_self, Nat.reduceAdd, Nat.reduceLeDiff]; rfl) ?_
 refine y2y (id := 0) rfl rfl rfl ?_
 refine w7w rfl ?_
 refine a4t fun K1 hK1 => ?_
 refine b3o v7v (by rfl) ?_
 refine v5v rfl ?_
 refine c5q rfl a9i rfl ?_
 refine v5v rfl ?_
 refine a8j ?_
 refine d8m 0 259 rfl ?_
 refine x5x (ι := Nat) (fun i γ1 => [(10, .pv (.int .i64 (i : Int)))]) (fun i γ1 => [(0, ((γ 0 + 1), .chn 256 259 ((l.take i).map (a1w c)))), (1, ((γ1 1), .dead))]) (fun i => i ≤ l.length) (fun i => l.length - i) (x8x 3 rfl (x8x 8 rfl (x8x 9 rfl Cov.nil))) HE.nil 0 (by omega) [0, _] (x8x 10 rfl Cov.nil) (HE.chn rfl (by rw [List.take_zero]; rfl) (HE.kill rfl HE.nil)) rfl fun i γ1 hi => ?_
 refine b3o v7v (by rfl) ?_
 refine b3t rfl rfl rfl ?_
 refine a4t fun K2 hK2 => ?_
 refine a0z rfl (fun hc3 => ?_) (fun hc3 => ?_)
 rotate_left
 ·try simp at hc3
  obtain rfl : i = l.length := by omega
  refine b1s ?_
  refine hK1 _ _ ?_
  clear hK2 K2 hK1 K1
  refine b3o v7v (by rfl) ?_
  refine v5v rfl ?_
  refine w7w rfl ?_
  refine b0w ?_
  rw [List.take_length]
  exact ⟨.inr rfl, [_], rfl, rfl, HE.same rfl HE.nil⟩
 try simp at hc3
 obtain ⟨p, hp⟩ : ∃ p, l[i]? = some p := e3f (by omega)
 refine b4s ?_
 refine hK2 _ _ ?_
 clear hK2 K2
 refine a4t fun K4 hK4 => ?_
 refine a8j ?_
 refine b3o v7v (by rfl) ?_
 refine b0h rfl rfl a9i rfl a5g rfl (by assumption) ?_
 refine b1t rfl a5g rfl rfl ?_
 refine x2x (id := 1) a5g c3h rfl ?_
 refine c0p rfl rfl a5g rfl rfl rfl rfl ?_
 refine a2j v7v (by rfl) ?_
 refine v5v rfl ?_
 refine b8t rfl a5g rfl rfl rfl ?_
 refine d7p [0] [_] (b9i c p (l.take i)) rfl rfl rfl (by decide) rfl rfl (by repeat (first | exact InH.nil | refine InH.cons rfl ?_)) (by (simp only [pI, a2d, a2f, b8w, gl, nx, a6q, Nat.beq]; rfl)) (by (simp only [pI, a2d, a2f, b8w, gl, nx, a6q, Nat.beq]; rfl)) ?_
 refine hK4 _ _ ?_
 clear hK4 K4
 refine a2j v7v (by rfl) ?_
 refine x7x (b := 1) rfl rfl (by omega) ?_
 refine v5v rfl ?_
 exact ⟨i + 1, ⟨by omega, by omega⟩, [0, _], (x8x 10 rfl Cov.nil), (x8x 3 rfl (x8x 8 rfl (x8x 9 rfl Cov.nil))), (HE.chn rfl (by rw [z7z hp]) (HE.kill rfl HE.nil)), HE.nil, rfl⟩
theorem b2s (c c' : Bool) (ps : List Pa) (s : List Ev) : Meth Tryz.prog 132 1 [0] [.ptr 0 0 0, a0g c' s] [(0, (0, .chn 256 259 ((ps).map (a1w c))))] (.pv (.int .i64 (same ps s : Int))) [] := by
 refine a0m v7v (fn := Tryz.f132) (by kernel_rfl) (by kernel_rfl) rfl (O0 := [.pv (.int .i64 (same ps s : Int))]) 1 0 (s2s rfl) (by rfl) (by repeat (first | exact BndH.nil | refine BndH.chn ?_)) (by repeat (exact BndH.nil)) (by rfl) fun γ => ?_
 show Ex Tryz.prog _ _ [(0, .ptr 0 (γ 0) 0), (1, a0g c' s)] [(0, ((γ 0), .chn 256 259 ((ps).map (a1w c))))] _
 refine w1w 1 rfl fun hlen => ?_
 refine e5u 0 rfl fun b0 bs hbl hbn => ?_
 have hbl2 : bs.length = ps.length := by rw [hbl, List.length_map]
 refine b3o v7v (by rfl) ?_
 refine w7w rfl ?_
 refine b3o v7v (by rfl) ?_
 refine w7w rfl ?_
 refine a4t fun K1 hK1 => ?_
 refine b3o v7v (by rfl) ?_
 refine v5v rfl ?_
 refine b8u rfl rfl ?_
 refine v1v rfl c0l rfl rfl a5e rfl rfl ?_
 refine c5z v7v (out := .pv (b3m bs.head?)) rfl a5e rfl rfl ?_
 refine w7w rfl ?_
 refine a8j ?_
 refine x5x (ι := Nat) (fun i γ1 => [(5, .pv (.int .i64 (i : Int))), (6, .pv (b3m bs[i]?))]) (fun i γ1 => []) (fun i => i ≤ ps.length ∧ i ≤ s.length ∧ same ps s = i + same (ps.drop i) (s.drop i)) (fun i => ps.length - i) (x8x 1 rfl Cov.nil) (w9w 0 rfl HE.nil) 0 ⟨by omega, by omega, by rw [List.drop_zero, List.drop_zero, Nat.zero_add]⟩ [] (x8x 5 rfl (Cov.cons' (t := 6) rfl ((by rw [List.head?_eq_getElem?])) Cov.nil)) HE.nil rfl fun i γ1 hi => ?_
 obtain ⟨h1, h2, h3⟩ := hi
 refine a4t fun K2 hK2 => ?_
 refine e5w v7v c0m (by rfl) ?_
 refine v5v rfl ?_
 refine c3i rfl rfl (by intro a c h h2; cases h; cases h2; rfl) (.inr rfl) (d8e (by kernel_rfl) _ _ _) ?_
 refine v5v rfl ?_
 refine f0d rfl rfl (fun hg3 => ?_) (fun hg3 => ?_)
 rotate_left
 ·try simp at hg3
  have g1 : ps.length ≤ i := by omega
  refine a8d rfl rfl ?_
  refine a8d rfl rfl ?_
  refine a8d rfl rfl ?_
  refine c5o rfl rfl ?_
  refine v5v rfl ?_
  refine a8d rfl rfl ?_
  refine a8d rfl rfl ?_
  refine a8d rfl rfl ?_
  refine a8d rfl rfl ?_
  refine a8d rfl rfl ?_
  refine a8d rfl rfl ?_
  refine a8d rfl rfl ?_
  refine a8d rfl rfl ?_
  refine a8d rfl rfl ?_
  refine a8d rfl rfl ?_
  refine c5o rfl rfl ?_
  refine ⟨by kernel_rfl, ?_⟩
  refine a0z rfl (fun hc8 => ?_) (fun hc8 => ?_)
  ·simp at hc8
  try simp at hc8
  try have heq : ¬ p.ev = e := by simpa [a7i] using hc8
  refine b1s ?_
  refine hK1 _ _ ?_
  clear hK2 K2 hK1 K1
  refine b3o v7v (by rfl) ?_
  refine v5v rfl ?_
  refine w7w rfl ?_
  refine c5y 0 b0 256 259 (bs) (ps.map (a1w c)) rfl hbl rfl ?_
  refine b0w ?_
  refine ⟨.inr rfl, [γ 0], rfl, ?_, HE.same rfl HE.nil⟩
  exact congrArg (fun v : Nat => some [AV.pv (.int .i64 (v : Int))]) (h3.trans (by rw [c9a g1]; rfl)).symm
 try simp at hg3
 obtain ⟨b, hb⟩ : ∃ b, bs[i]? = some b := e3f (by omega)
 rw [hb]
 have g1 : i < ps.length := by have := (List.getElem?_eq_some_iff.1 hb).1; omega
 obtain ⟨p, hp⟩ : ∃ p, ps[i]? = some p := e3f (by omega)
 refine v5v rfl ?_
 refine b3n rfl rfl ?_
 refine v5v rfl ?_
 refine b3n rfl rfl ?_
 refine c5q rfl v2v rfl ?_
 refine b3n rfl rfl ?_
 refine b3t rfl rfl rfl ?_
 refine c5n rfl rfl ?_
 refine v5v rfl ?_
 refine f0d rfl rfl (fun hg4 => ?_) (fun hg4 => ?_)
 rotate_left
 ·try simp at hg4
  have g2 : s.length ≤ i := by omega
  refine a8d rfl rfl ?_
  refine a8d rfl rfl ?_
  refine a8d rfl rfl ?_
  refine a8d rfl rfl ?_
  refine a8d rfl rfl ?_
  refine a8d rfl rfl ?_
  refine a8d rfl rfl ?_
  refine a8d rfl rfl ?_
  refine a8d rfl rfl ?_
  refine c5o rfl rfl ?_
  refine ⟨by kernel_rfl, ?_⟩
  refine a0z rfl (fun hc7 => ?_) (fun hc7 => ?_)
  ·simp at hc7
  try simp at hc7
  try have heq : ¬ p.ev = e := by simpa [a7i] using hc7
  refine b1s ?_
  refine hK1 _ _ ?_
  clear hK2 K2 hK1 K1
  refine b3o v7v (by rfl) ?_
  refine v5v rfl ?_
  refine w7w rfl ?_
  refine c5y 0 b0 256 259 (bs) (ps.map (a1w c)) rfl hbl rfl ?_
  refine b0w ?_
  refine ⟨.inr rfl, [γ 0], rfl, ?_, HE.same rfl HE.nil⟩
  exact congrArg (fun v : Nat => some [AV.pv (.int .i64 (v : Int))]) (h3.trans (by rw [c9b g2]; rfl)).symm
 try simp at hg4
 have g2 : i < s.length := by omega
 obtain ⟨e, he⟩ : ∃ e, s[i]? = some e := e3f (by omega)
 refine v5v rfl ?_
 refine b3n rfl rfl ?_
 refine d1c rfl ?_
 refine b3n rfl rfl ?_
 refine a6s v7v rfl d2t rfl rfl a5g rfl ?_
 refine b3n rfl rfl ?_
 refine a6s v7v rfl a5g rfl rfl z3z rfl ?_
 refine b3n rfl rfl ?_
 refine d3e v7v (out := .agg (z2z p.ev)) 0 rfl z3z rfl (d8k hbl hb (d9z hp)) rfl ?_
 refine b3n rfl rfl ?_
 refine v5v rfl ?_
 refine b3n rfl rfl ?_
 refine v5v rfl ?_
 refine b3n rfl rfl ?_
 refine b0h rfl rfl v2v rfl z3z rfl he ?_
 refine b3n rfl rfl ?_
 refine v9v (out := .agg (z2z e)) rfl z3z rfl ?_
 refine b3n rfl rfl ?_
 refine c3i rfl rfl (by intro a c h; cases h) (.inl rfl) (f0e _ _ _ _) ?_
 refine c5n rfl rfl ?_
 refine ⟨by kernel_rfl, ?_⟩
 refine a0z rfl (fun hc5 => ?_) (fun hc5 => ?_)
 rotate_left
 ·try simp at hc5
  try have heq : ¬ p.ev = e := by simpa [a7i] using hc5
  refine b1s ?_
  refine hK1 _ _ ?_
  clear hK2 K2 hK1 K1
  refine b3o v7v (by rfl) ?_
  refine v5v rfl ?_
  refine w7w rfl ?_
  refine c5y 0 b0 256 259 (bs) (ps.map (a1w c)) rfl hbl rfl ?_
  refine b0w ?_
  refine ⟨.inr rfl, [γ 0], rfl, ?_, HE.same rfl HE.nil⟩
  exact congrArg (fun v : Nat => some [AV.pv (.int .i64 (v : Int))]) (h3.trans (by rw [c8z hp he heq]; rfl)).symm
 try simp at hc5
 try have heq : p.ev = e := by simpa [a7i] using hc5
 refine b4s ?_
 refine hK2 _ _ ?_
 clear hK2 K2
 refine a4t fun K6 hK6 => ?_
 refine a8j ?_
 refine a2j v7v (by rfl) ?_
 refine v5v rfl ?_
 refine x7x (b := 1) rfl rfl (by omega) ?_
 refine w7w rfl ?_
 refine hK6 _ _ ?_
 clear hK6 K6
 refine a2j v7v (by rfl) ?_
 refine v5v rfl ?_
 refine d1c rfl ?_
 refine a6s v7v rfl d2t rfl rfl a5e rfl ?_
 refine d3e v7v (out := .pv (b3m bs[i + 1]?)) 0 rfl a5e rfl (d8k hbl hb (d9z hp)) rfl ?_
 refine w7w rfl ?_
 exact ⟨i + 1, ⟨⟨by omega, by omega, by rw [h3, c8y hp he heq]; omega⟩, by omega⟩, [], (x8x 5 rfl (x8x 6 rfl Cov.nil)), (x8x 1 rfl Cov.nil), HE.nil, (w9w 0 rfl HE.nil), rfl⟩
end
section
theorem b7d (c : Bool) (n : Nd) : a0p Tryz.prog 38 [.agg (u0u c n)] (.pv (.bool (kb (y4y n)))) := by
 refine pX Tryz.f38 [.pv (.bool (kb (y4y n)))] 8 ?_
 have hpl := a4x n.id 4
 refine dv 1 ?_
 refine y2y (id := 0) rfl rfl rfl (dv 4 fun K K' => ?_)
 refine x0x rfl rfl rfl (c3p ..) (dc 1 (aI ?_ ?_))<;>intro hc2<;>try simp at hc2
 ·try have hX : ¬ a1j n := a0x (by simpa using hc2)
  refine dv 3 ?_
  refine x3x rfl ?_ rfl
  exact congrArg (fun b : Bool => [AV.pv (.bool b)]) (a4p (fun h => hX h.1))
 have fS : a1j n := a0r.1 (by simpa using hc2)
 have fB := v6v fS
 have fL := fS.2.2.2.2.1
 have fV := fS.2.2.2.2.2.1
 refine dv 3 ?_
 refine rlM [1, 2, 3, 4, 5] [_, _, _, _, _] (b6z c n (by omega) (by omega) fS.2.2.2.2.2.2.1) rfl rfl rfl ?_
 refine dv 5 fun K K' => ?_
 refine x0x rfl rfl rfl (b4c ..) (dv 3 ?_)
 refine x5x (ι := Nat) (fun j γ1 => [(16, pI (j : Int))]) (fun j γ1 => [(6, ((γ1 6), .dead)), (7, ((γ1 7), .dead))]) (fun j => j ≤ (p4p n.id 4).length ∧ c7o n.lanes (fun j l => ∀ p, (p4p n.id 4)[j]? = some p → l.done.length ≤ same l.done (a1g n p) ∧ (a1g n p).length ≤ 100) j) (fun j => (p4p n.id 4).length - j) (r3r [3, 14, 15] rfl) (a1c [0, 1, 2, 3, 4, 5] rfl) 0 ⟨by omega, a1f⟩ [0, 0, 0, 0, 0, 0, _, _] x6x x4x rfl fun j γ1 hi => ?_
 obtain ⟨d1, d2⟩ := hi
 refine dc 3 (fun K K' => aS ?_ ?_)<;>intro o<;>try simp at o
 ·have fC := fun (i : Nat) p l (a : (p4p n.id 4)[i]? = some p) (b : n.lanes[i]? = some l) => a2v d2 (by omega) i l b p a
  refine dv 4 ?_
  refine x3x rfl ?_ rfl
  exact congrArg (fun b : Bool => [AV.pv (.bool b)]) (d8z ⟨fS, fC⟩)
 obtain ⟨l, hl⟩ := gE n.lanes j
 obtain ⟨p, hp⟩ := gE (p4p n.id 4) j
 obtain ⟨hdl, _⟩ := a2q (fS.2.2.2.2.2.2.2.1 j l hl).2
 refine dv 12 fun K K' => ?_
 refine rlM [1, 2, 3, 4, 5, 6] [_, _, _, _, _, _] (b9h c n p (a5j fS) (by omega) fS.2.2.2.2.2.1) rfl rfl rfl ?_
 refine dv 1 ?_
 refine r1r 6 rfl rfl (fun _ => rfl) ?_
 refine dc 5 (aS ?_ ?_)<;>intro o<;>try simp at o
 ·refine dv 23 ?_
  refine x3x rfl ?_ rfl
  exact congrArg (fun b : Bool => [AV.pv (.bool b)]) (a4p (fun h => by have := h.2 _ _ _ hp hl; omega))
 refine dv 5 ?_
 refine z0z (j := j) rfl rfl c0k rfl a9i rfl rfl (z1z hl) ?_
 refine dv 1 ?_
 refine rlM [7] [_] (c3s c l.done) rfl rfl rfl ?_
 refine dv 1 ?_
 refine rlM [7] [_] (b2s c true l.done (a1g n p)) rfl rfl rfl ?_
 refine dv 5 ?_
 refine z0z (j := j) rfl rfl c0k rfl a9i rfl rfl (z1z hl) ?_
 refine dc 4 (aS ?_ ?_)<;>intro o<;>try simp at o
 ·refine dv 2 ?_
  refine x7x (b := 1) rfl rfl (by omega) (dv 1 ?_)
  exact ⟨j + 1, ⟨⟨by omega, r5r d2 hl (fun p2 hp2 => by rw [hp] at hp2; cases hp2; omega)⟩, by omega⟩, [0, 0, 0, 0, 0, 0, _, _], x6x, x6x, x4x, x4x, rfl⟩
 refine dv 3 ?_
 refine x3x rfl ?_ rfl
 exact congrArg (fun b : Bool => [AV.pv (.bool b)]) (a4p (fun h => by have := h.2 _ _ _ hp hl; omega))
end
section
def a7w (n : Nd) (t : Int) : Prop := y4y n ∧ (0 ≤ t ∧ t ≤ 2) ∧ ¬ t = n.id
open Classical in
noncomputable def a6d (n : Nd) (t : Int) : List Ev := if a7w n t then a1q n t else []
variable {n : Nd} {t : Int}
theorem b9u (h : a7w n t) : a6d n t = a1q n t := if_pos h
theorem a7b (h : ¬ a7w n t) : a6d n t = [] := if_neg h
variable {i : Nat} {e : Ev}
theorem e5c (h : (a6d n t)[i]? = some e) : a7w n t :=
 Classical.byContradiction fun k => by rw [a7b k] at h; simp at h
theorem e1u (h : (a6d n t)[i]? = some e) : ∃ (k : Nat) (v : Int), t = (k : Int) ∧ n.known[k]? = some v ∧ s4s e.to = t ∧ v ≤ e.time := by
 have hp := e5c h
 obtain ⟨k, rfl⟩ := Int.eq_ofNat_of_zero_le hp.2.1.1
 have h3 := hp.1.1.2.2.2.2.2.2.1
 obtain ⟨v, hv⟩ : ∃ v, n.known[k]? = some v := ⟨_, List.getElem?_eq_getElem (by have := hp.2.1.2; omega)⟩
 rw [b9u hp, c1i hv] at h
 have hm := List.mem_of_getElem? h
 unfold u5u at hm
 rw [b0i, List.mem_filter] at hm
 have h2 := hm.2
 simp only [a6i, decide_eq_true_eq] at h2
 exact ⟨k, v, rfl, hv, h2⟩
theorem e1v (n : Nd) (t : Int) : SS a2e (a6d n t) := by
 by_cases k : a7w n t
 ·rw [b9u k]; exact b2c _
 ·rw [a7b k]; exact List.Pairwise.nil
theorem e1w {a b : Ev} (hi : 0 < i) (ha : (a6d n t)[i - 1]? = some a) (hb : (a6d n t)[i]? = some b) : a2e a b = true := by
 obtain ⟨h1, rfl⟩ := List.getElem?_eq_some_iff.1 ha
 obtain ⟨h2, rfl⟩ := List.getElem?_eq_some_iff.1 hb
 exact (List.pairwise_iff_getElem.1 (e1v n t)) (i - 1) i h1 h2 (by omega)
theorem e1x (h : ¬ (a6d n t).length = 0) : a7w n t :=
 Classical.byContradiction fun k => h (by rw [a7b k]; rfl)
end
section
theorem b9j (c : Bool) (n : Nd) (t : Int) : a0p Tryz.prog 40 [.agg (u0u c n), .pv (.int .i64 t)] (a0g true (a6d n t)) := by
 refine pX Tryz.f40 [a0g true (a6d n t)] 2 ?_
 refine dv 1 ?_
 refine y2y (id := 0) rfl rfl rfl (dv 4 fun K K' => ?_)
 refine x0x rfl rfl rfl (w3w c n) (dc 2 (aS ?_ ?_))<;>intro hg2<;>try simp at hg2
 ·have fX : ¬ a7w n t := fun h => a0x (by simpa using hg2) h.1
  refine dv 11 ?_
  refine x9x (id := 1) v2v rfl z3z rfl (dv 2 ?_)
  (rw [a7b fX]; exact a2t (l := ([] : List Ev)) rfl rfl (fun _ => rfl) rfl)
 have fK : y4y n := a0r.1 (by simpa using hg2)
 refine dv 1 ?_
 refine x0x rfl rfl rfl (y7y t 0 2) (dc 3 (aS ?_ ?_))<;>intro hg3<;>try simp at hg3
 ·have fX : ¬ a7w n t := fun h => by have := h.2.1; simp_all; try omega
  refine dv 6 ?_
  refine x9x (id := 1) v2v rfl z3z rfl (dv 2 ?_)
  (rw [a7b fX]; exact a2t (l := ([] : List Ev)) rfl rfl (fun _ => rfl) rfl)
 have fI : 0 ≤ t ∧ t ≤ 2 := hg3
 refine dc 5 (aI ?_ ?_)<;>intro hc4<;>try simp at hc4
 ·have fX : ¬ a7w n t := fun h => h.2.2 (by simpa using hc4)
  refine dv 1 ?_
  refine x9x (id := 1) v2v rfl z3z rfl (dv 2 ?_)
  (rw [a7b fX]; exact a2t (l := ([] : List Ev)) rfl rfl (fun _ => rfl) rfl)
 have fF : a7w n t := ⟨fK, fI, by exact hc4⟩
 have fS := fK.1
 have fB := v6v fS
 have fV := fS.2.2.2.2.2.1
 obtain ⟨k, rfl⟩ := Int.eq_ofNat_of_zero_le fI.1
 refine dv 4 ?_
 refine x0x rfl rfl rfl (a3j c n k (by omega) fS.2.2.2.2.2.2.1 (by have := a5j fS; omega) (by omega)) ?_
 refine dv 2 ?_
 (rw [b9u fF]; exact ⟨_, _, rfl, .cl rfl .nil⟩)
theorem b7e (c : Bool) (n : Nd) (t : Int) : Meth Tryz.prog 41 1 [] [.agg (u0u c n), .pv (.int .i64 t)] [(0, (0, .dead))] (.ref 0 0) [(0, (0, .row 56 7 ((a6d n t).map z2z)))] := by
 refine mX Tryz.f41 [.ref 0 0] 1 6 fun γ => ?_
 refine dv 1 ?_
 refine y2y (id := 1) rfl rfl rfl (dv 4 fun K K' => ?_)
 refine x0x rfl rfl rfl (b7d c n) (dc 2 (aS ?_ ?_))<;>intro hg2<;>try simp at hg2
 ·have fX : ¬ a7w n t := fun h => a0x (by simpa using hg2) h.1
  refine dv 12 ?_
  refine a7k 4 0 56 7 rfl rfl (dv 1 ?_)
  exact ⟨[_], rfl, rfl, HE.row rfl (by rw [a7b fX]; rfl) HE.nil⟩
 have fK : y4y n := a0r.1 (by simpa using hg2)
 refine dv 1 ?_
 refine x0x rfl rfl rfl (b6x t) (dc 3 (aS ?_ ?_))<;>intro hg3<;>try simp at hg3
 ·have fX : ¬ a7w n t := fun h => by have := h.2.1; simp_all; try omega
  refine dv 7 ?_
  refine a7k 4 0 56 7 rfl rfl (dv 1 ?_)
  exact ⟨[_], rfl, rfl, HE.row rfl (by rw [a7b fX]; rfl) HE.nil⟩
 have fI : 0 ≤ t ∧ t ≤ 2 := hg3
 refine dc 5 (aI ?_ ?_)<;>intro hc4<;>try simp at hc4
 ·have fX : ¬ a7w n t := fun h => h.2.2 (by simpa using hc4)
  refine dv 2 ?_
  refine a7k 4 0 56 7 rfl rfl (dv 1 ?_)
  exact ⟨[_], rfl, rfl, HE.row rfl (by rw [a7b fX]; rfl) HE.nil⟩
 have fF : a7w n t := ⟨fK, fI, by exact hc4⟩
 have fS := fK.1
 have fB := v6v fS
 have fV := fS.2.2.2.2.2.1
 obtain ⟨k, rfl⟩ := Int.eq_ofNat_of_zero_le fI.1
 refine dv 3 ?_
 refine rlM [2, 3, 4, 5, 6] [_, _, _, _, _] (b6z c n (by omega) (by omega) fS.2.2.2.2.2.2.1) rfl rfl rfl ?_
 refine dv 1 ?_
 refine rlM [2, 3, 4, 5, 6, 0] [_, _, _, _, _, _] (b8m c n k (by omega) fS.2.2.2.2.2.2.1 (by have := a5j fS; omega) (by omega)) rfl rfl rfl ?_
 refine dv 1 ?_
 skip
 refine dv 1 ?_
 exact ⟨[_], rfl, rfl, HE.row rfl (by rw [b9u fF]) HE.nil⟩
end
section
theorem a4m (r : Int) : a0p Tryz.prog 301 [.pv (.int .i64 r)] (.pv (.bool (decide (0 ≤ r ∧ r ≤ 1)))) := by
 refine pX Tryz.f301 [.pv (.bool (decide (0 ≤ r ∧ r ≤ 1)))] 0 ?_
 refine dv 4 ?_
 refine x0x rfl rfl rfl (y7y r 0 1) (dv 2 ?_)
 exact x3x rfl rfl rfl
theorem c7j (o : Op_) : a0p Tryz.prog 270 [.agg (b2j o)] (.pv (.bool (decide (b0o o)))) := by
 refine pX Tryz.f270 [.pv (.bool (decide (b0o o)))] 1 ?_
 refine dv 1 ?_
 refine y2y (id := 0) rfl rfl rfl (w7w rfl (a4t fun K K' => ?_))
 refine exR (v1v rfl a0w rfl rfl q9q rfl rfl (y9y rfl q9q rfl rfl (a8j ?_)))
 refine p9p (ι := Bool) (fun b γ1 => [(5, .pv (.bool (b)))]) (fun b γ1 => []) (fun b => b = decide (o.do' = 1 ∨ o.do' = 3)) (r3r [1, 4] rfl) (w9w 0 rfl HE.nil) ?_ fun b γ1 hi => ?_
 ·refine exR (b3t rfl rfl rfl (w7w rfl (a0z rfl ?_ ?_)))<;>intro h<;>try simp at h
  ·refine b4s ?_
   repeat clear K' K
   exact ⟨_, (by (simp_all; done)), [], (x8x 5 rfl Cov.nil), (x8x 1 rfl (x8x 4 rfl Cov.nil)), HE.nil, (w9w 0 rfl HE.nil), rfl⟩
  refine a2j v7v (by rfl) (b3t rfl rfl rfl (w7w rfl ?_))
  exact ⟨_, (by (show (_ : Bool) = _; rw [Bool.eq_iff_iff]; simp; omega)), [], (x8x 5 rfl Cov.nil), (x8x 1 rfl (x8x 4 rfl Cov.nil)), HE.nil, (w9w 0 rfl HE.nil), rfl⟩
 ·try dsimp only [b1n, b1o]
  subst hi
  refine dc 0 (aI ?_ ?_)<;>intro h<;>try simp at h
  ·refine dv 3 ?_
   refine x0x rfl rfl rfl (a4m ..) (dc 1 (aS ?_ ?_))<;>intro h<;>try simp at h
   ·refine dv 15 ?_
    refine x3x rfl ?_ rfl
    exact congrArg (fun b : Bool => [AV.pv (.bool b)]) ((decide_eq_false (by simp only [b0o, a2y, b3z]; omega)).symm)
   refine dv 2 ?_
   refine x0x rfl rfl rfl (a4l ..) (dc 2 (aS ?_ ?_))<;>intro h<;>try simp at h
   ·refine dv 10 ?_
    refine x3x rfl ?_ rfl
    exact congrArg (fun b : Bool => [AV.pv (.bool b)]) ((decide_eq_false (by simp only [b0o, a2y, b3z]; omega)).symm)
   refine dc 5 (aS ?_ ?_)<;>intro h<;>try simp at h
   ·refine dv 5 ?_
    refine x3x rfl ?_ rfl
    exact congrArg (fun b : Bool => [AV.pv (.bool b)]) ((decide_eq_false (by simp only [b0o, a2y, b3z]; omega)).symm)
   refine dv 6 ?_
   refine x3x rfl ?_ rfl
   exact congrArg (fun b : Bool => [AV.pv (.bool b)]) (decide_eq_decide.2 (by simp only [b0o, a2y, b3z]; omega))
  refine dc 3 (aI ?_ ?_)<;>intro h<;>try simp at h
  ·refine dv 3 ?_
   refine x0x rfl rfl rfl (a4m ..) (dc 1 (aS ?_ ?_))<;>intro h<;>try simp at h
   ·refine dv 15 ?_
    refine x3x rfl ?_ rfl
    exact congrArg (fun b : Bool => [AV.pv (.bool b)]) ((decide_eq_false (by simp only [b0o, a2y, b3z]; omega)).symm)
   refine dv 2 ?_
   refine x0x rfl rfl rfl (a4m ..) (dc 2 (aS ?_ ?_))<;>intro h<;>try simp at h
   ·refine dv 10 ?_
    refine x3x rfl ?_ rfl
    exact congrArg (fun b : Bool => [AV.pv (.bool b)]) ((decide_eq_false (by simp only [b0o, a2y, b3z]; omega)).symm)
   refine dc 5 (aS ?_ ?_)<;>intro h<;>try simp at h
   ·refine dv 5 ?_
    refine x3x rfl ?_ rfl
    exact congrArg (fun b : Bool => [AV.pv (.bool b)]) ((decide_eq_false (by simp only [b0o, a2y, b3z]; omega)).symm)
   refine v1v rfl a0w rfl rfl q9q rfl rfl (b3n rfl rfl (y9y rfl q9q rfl rfl (b3n rfl rfl (b3t rfl rfl rfl (c5n rfl rfl (w7w rfl (b0w ⟨.inr rfl, ?_⟩)))))))
   refine x3x rfl ?_ rfl
   exact congrArg (fun b : Bool => [AV.pv (.bool b)]) (decide_eq_decide.2 (by simp only [b0o, a2y, b3z]; omega))
  refine p9p (ι := Bool) (fun b γ2 => [(46, .pv (.bool (b)))]) (fun b γ2 => []) (fun b => b = decide (o.do' = 4 ∨ o.do' = 7)) (r3r [1, 4] rfl) (w9w 0 rfl HE.nil) ?_ fun b γ2 hi => ?_
  ·refine exR (b3t rfl rfl rfl (w7w rfl (a0z rfl ?_ ?_)))<;>intro h<;>try simp at h
   ·refine b4s ?_
    repeat clear K' K
    exact ⟨_, (by (simp_all; done)), [], (x8x 46 rfl Cov.nil), (x8x 1 rfl (x8x 4 rfl Cov.nil)), HE.nil, (w9w 0 rfl HE.nil), rfl⟩
   refine a2j v7v (by rfl) (b3t rfl rfl rfl (w7w rfl ?_))
   exact ⟨_, (by (show (_ : Bool) = _; rw [Bool.eq_iff_iff]; simp; omega)), [], (x8x 46 rfl Cov.nil), (x8x 1 rfl (x8x 4 rfl Cov.nil)), HE.nil, (w9w 0 rfl HE.nil), rfl⟩
  ·try dsimp only [b1n, b1o]
   subst hi
   refine dc 0 (aI ?_ ?_)<;>intro h<;>try simp at h
   ·refine dv 3 ?_
    refine x0x rfl rfl rfl (a4m ..) (dc 1 (aS ?_ ?_))<;>intro h<;>try simp at h
    ·refine dv 15 ?_
     refine x3x rfl ?_ rfl
     exact congrArg (fun b : Bool => [AV.pv (.bool b)]) ((decide_eq_false (by simp only [b0o, a2y, b3z]; omega)).symm)
    refine dc 5 (aS ?_ ?_)<;>intro h<;>try simp at h
    ·refine dv 10 ?_
     refine x3x rfl ?_ rfl
     exact congrArg (fun b : Bool => [AV.pv (.bool b)]) ((decide_eq_false (by simp only [b0o, a2y, b3z]; omega)).symm)
    refine dc 5 (aS ?_ ?_)<;>intro h<;>try simp at h
    ·refine dv 5 ?_
     refine x3x rfl ?_ rfl
     exact congrArg (fun b : Bool => [AV.pv (.bool b)]) ((decide_eq_false (by simp only [b0o, a2y, b3z]; omega)).symm)
    refine dv 6 ?_
    refine x3x rfl ?_ rfl
    exact congrArg (fun b : Bool => [AV.pv (.bool b)]) (decide_eq_decide.2 (by simp only [b0o, a2y, b3z]; omega))
   refine dc 3 (aI ?_ ?_)<;>intro h<;>try simp at h
   ·refine dv 3 ?_
    refine x0x rfl rfl rfl (a4m ..) (dc 1 (aS ?_ ?_))<;>intro h<;>try simp at h
    ·refine dv 15 ?_
     refine x3x rfl ?_ rfl
     exact congrArg (fun b : Bool => [AV.pv (.bool b)]) ((decide_eq_false (by simp only [b0o, a2y, b3z]; omega)).symm)
    refine dv 2 ?_
    refine x0x rfl rfl rfl (a4l ..) (dc 2 (aS ?_ ?_))<;>intro h<;>try simp at h
    ·refine dv 10 ?_
     refine x3x rfl ?_ rfl
     exact congrArg (fun b : Bool => [AV.pv (.bool b)]) ((decide_eq_false (by simp only [b0o, a2y, b3z]; omega)).symm)
    refine dv 2 ?_
    refine x0x rfl rfl rfl (y7y ..) (dc 2 (aS ?_ ?_))<;>intro h<;>try simp at h
    ·refine dv 5 ?_
     refine x3x rfl ?_ rfl
     exact congrArg (fun b : Bool => [AV.pv (.bool b)]) ((decide_eq_false (by simp only [b0o, a2y, b3z]; omega)).symm)
    refine dv 6 ?_
    refine x3x rfl ?_ rfl
    exact congrArg (fun b : Bool => [AV.pv (.bool b)]) (decide_eq_decide.2 (by simp only [b0o, a2y, b3z]; omega))
   refine dc 3 (aS ?_ ?_)<;>intro h<;>try simp at h
   ·refine dv 4 ?_
    refine x3x rfl ?_ rfl
    exact congrArg (fun b : Bool => [AV.pv (.bool b)]) ((decide_eq_false (by simp only [b0o, a2y, b3z]; omega)).symm)
   refine dv 3 ?_
   refine x0x rfl rfl rfl (a3m ..) (dc 1 (aS ?_ ?_))<;>intro h<;>try simp at h
   ·refine dv 15 ?_
    refine x3x rfl ?_ rfl
    exact congrArg (fun b : Bool => [AV.pv (.bool b)]) ((decide_eq_false (by simp only [b0o, a2y, b3z]; omega)).symm)
   refine dv 2 ?_
   refine x0x rfl rfl rfl (y7y ..) (dc 2 (aS ?_ ?_))<;>intro h<;>try simp at h
   ·refine dv 10 ?_
    refine x3x rfl ?_ rfl
    exact congrArg (fun b : Bool => [AV.pv (.bool b)]) ((decide_eq_false (by simp only [b0o, a2y, b3z]; omega)).symm)
   refine dv 2 ?_
   refine x0x rfl rfl rfl (y7y ..) (dc 2 (aS ?_ ?_))<;>intro h<;>try simp at h
   ·refine dv 5 ?_
    refine x3x rfl ?_ rfl
    exact congrArg (fun b : Bool => [AV.pv (.bool b)]) ((decide_eq_false (by simp only [b0o, a2y, b3z]; omega)).symm)
   refine dv 2 ?_
   refine x0x rfl rfl rfl (a4m ..) (dv 3 ?_)
   refine x3x rfl ?_ rfl
   exact congrArg (fun b : Bool => [AV.pv (.bool b)]) (decide_eq_decide.2 (by simp only [b0o, a2y, b3z]; omega))
theorem b2t (c : Bool) (r : Ru) (hl : r.ops.length ≤ 1048576) : a0p Tryz.prog 203 [.agg (c6x c r)] (.pv (.bool (kb (c7p r)))) := by
 refine pX Tryz.f203 [.pv (.bool (kb (c7p r)))] 1 ?_
 refine dv 1 ?_
 refine y2y (id := 0) rfl rfl rfl (dv 9 fun K K' => ?_)
 refine x5x (ι := Nat) (fun i γ1 => [(3, pI (c4z (r.ops.take i) : Int)), (4, pI (d5u (r.ops.take i) : Int)), (5, pI (i : Int))]) (fun i γ1 => []) (fun i => i ≤ r.ops.length ∧ ∀ (j : Nat) o, j < i → r.ops[j]? = some o → b0o o) (fun i => r.ops.length - i) (x8x 1 rfl Cov.nil) (w9w 0 rfl HE.nil) 0 ⟨by omega, fun j o hj => by omega⟩ [] (Cov.cons' (t := 3) rfl (by rfl) (Cov.cons' (t := 4) rfl (by rfl) (x8x 5 rfl Cov.nil))) x4x rfl fun i γ1 hi => ?_
 obtain ⟨k1, k2⟩ := hi
 refine dc 7 (fun K K' => aS ?_ ?_)<;>intro h<;>try simp at h
 ·obtain rfl : i = r.ops.length := by omega
  rw [List.take_length]
  have hall : ∀ o ∈ r.ops, b0o o := fun o ho => by obtain ⟨j, hj⟩ := List.getElem?_of_mem ho; exact k2 j o (List.getElem?_eq_some_iff.1 hj).1 hj
  refine dc 7 (aS ?_ ?_)<;>intro h<;>try simp at h
  ·refine dv 8 ?_
   refine x3x rfl ?_ rfl
   exact congrArg (fun b : Bool => [AV.pv (.bool b)]) (a4p fun q => by have := q.2; omega)
  refine dc 4 (aS ?_ ?_)<;>intro h<;>try simp at h
  ·refine dv 4 ?_
   refine x3x rfl ?_ rfl
   exact congrArg (fun b : Bool => [AV.pv (.bool b)]) (a4p fun q => by have := q.2; omega)
  refine dv 5 ?_
  refine x3x rfl ?_ rfl
  exact congrArg (fun b : Bool => [AV.pv (.bool b)]) (e8b (by rw [decide_eq_true_iff]; exact ⟨fun q => ⟨hall, by omega, by omega, by omega⟩, fun q => by have := q.2; omega⟩))
 obtain ⟨o, ho⟩ := gE r.ops i
 have hs6 := d1t r.ops i
 have hs7 := d5v r.ops i
 refine dv 10 fun K K' K K' => ?_
 refine x0x rfl rfl rfl (c7j ..) (dc 1 (aI ?_ ?_))<;>intro hc6<;>try simp at hc6
 ·have fX : ¬ c7p r := fun q => by have := q.1 o (List.mem_of_getElem? ho); simp_all
  refine dv 3 ?_
  refine x3x rfl ?_ rfl
  exact congrArg (fun b : Bool => [AV.pv (.bool b)]) (a4p fX)
 have hoo : b0o o := by simpa using hc6
 refine dc 10 (fun K K' => aS ?_ ?_)<;>intro hc8<;>try simp at hc8
 ·have h6 : ¬ o.do' = 6 := hc8
  refine dc 9 (aS ?_ ?_)<;>intro hc10<;>try simp at hc10
  ·have h7 : ¬ o.do' = 7 := hc10
   refine dv 3 ?_
   refine x7x (b := 1) rfl rfl (by omega) (dv 1 ?_)
   exact ⟨i + 1, ⟨⟨by omega, fun j q hj hq => by by_cases e : j = i; (subst e; rw [ho] at hq; cases hq; exact hoo); exact k2 j q (by omega) hq⟩, by omega⟩, [], (Cov.cons' (t := 3) rfl (by rw [z7z ho, b0p]; (rw [if_neg h6]; rfl)) (Cov.cons' (t := 4) rfl (by rw [z7z ho, b3i]; (rw [if_neg h7]; rfl)) (x8x 5 rfl Cov.nil))), x6x, x4x, x4x, rfl⟩
  have h7 : o.do' = 7 := hc10
  refine dv 2 ?_
  refine x7x (b := 1) rfl rfl (by omega) (dv 3 ?_)
  refine x7x (b := 1) rfl rfl (by omega) (dv 1 ?_)
  exact ⟨i + 1, ⟨⟨by omega, fun j q hj hq => by by_cases e : j = i; (subst e; rw [ho] at hq; cases hq; exact hoo); exact k2 j q (by omega) hq⟩, by omega⟩, [], (Cov.cons' (t := 3) rfl (by rw [z7z ho, b0p]; (rw [if_neg h6]; rfl)) (Cov.cons' (t := 4) rfl (by rw [z7z ho, b3i]; (rw [if_pos h7]; done)) (x8x 5 rfl Cov.nil))), x6x, x4x, x4x, rfl⟩
 have h6 : o.do' = 6 := hc8
 refine dv 2 ?_
 refine x7x (b := 1) rfl rfl (by omega) (dc 9 (aS ?_ ?_))<;>intro hc9<;>try simp at hc9
 ·have h7 : ¬ o.do' = 7 := hc9
  refine dv 3 ?_
  refine x7x (b := 1) rfl rfl (by omega) (dv 1 ?_)
  exact ⟨i + 1, ⟨⟨by omega, fun j q hj hq => by by_cases e : j = i; (subst e; rw [ho] at hq; cases hq; exact hoo); exact k2 j q (by omega) hq⟩, by omega⟩, [], (Cov.cons' (t := 3) rfl (by rw [z7z ho, b0p]; (rw [if_pos h6]; done)) (Cov.cons' (t := 4) rfl (by rw [z7z ho, b3i]; (rw [if_neg h7]; rfl)) (x8x 5 rfl Cov.nil))), x6x, x4x, x4x, rfl⟩
 have h7 : o.do' = 7 := hc9
 refine dv 2 ?_
 refine x7x (b := 1) rfl rfl (by omega) (dv 3 ?_)
 refine x7x (b := 1) rfl rfl (by omega) (dv 1 ?_)
 exact ⟨i + 1, ⟨⟨by omega, fun j q hj hq => by by_cases e : j = i; (subst e; rw [ho] at hq; cases hq; exact hoo); exact k2 j q (by omega) hq⟩, by omega⟩, [], (Cov.cons' (t := 3) rfl (by rw [z7z ho, b0p]; (rw [if_pos h6]; done)) (Cov.cons' (t := 4) rfl (by rw [z7z ho, b3i]; (rw [if_pos h7]; done)) (x8x 5 rfl Cov.nil))), x6x, x4x, x4x, rfl⟩
theorem a8n (c : Bool) (l : List Ap) (hb : ∀ a ∈ l, ∀ r ∈ a.rules, r.ops.length ≤ 1048576) : a0p Tryz.prog 87 [a4o c l] (.pv (.bool (kb (a5z l)))) := by
 refine pX Tryz.f87 [.pv (.bool (kb (a5z l)))] 0 ?_
 refine dc 7 (fun K K' => aI ?_ ?_)<;>intro h<;>try simp at h
 ·have fX : ¬ a5z l := fun q => by have := q.1; omega
  refine dv 3 ?_
  refine x3x rfl ?_ rfl
  exact congrArg (fun b : Bool => [AV.pv (.bool b)]) (a4p fX)
 have h4 : l.length = 4 := by omega
 refine dv 5 fun K K' => ?_
 refine x5x (ι := Nat) (fun i γ1 => [(3, pI (i : Int))]) (fun i γ1 => []) (fun i => i ≤ l.length ∧ ∀ (j : Nat) a, j < i → l[j]? = some a → e0o a) (fun i => l.length - i) (x8x 0 rfl Cov.nil) HE.nil 0 ⟨by omega, fun j a hj => by omega⟩ [] x6x x4x rfl fun i γ1 hi => ?_
 obtain ⟨k1, k2⟩ := hi
 refine dc 6 (fun K K' => aS ?_ ?_)<;>intro h<;>try simp at h
 ·obtain rfl : i = l.length := by omega
  have hT : a5z l := ⟨h4, fun a ha => by obtain ⟨j, hj⟩ := List.getElem?_of_mem ha; exact k2 j a (List.getElem?_eq_some_iff.1 hj).1 hj⟩
  refine dv 4 ?_
  refine x3x rfl ?_ rfl
  exact congrArg (fun b : Bool => [AV.pv (.bool b)]) (d8z hT)
 obtain ⟨a, ha⟩ := gE l i
 refine dc 15 (fun K K' K K' => aI ?_ ?_)<;>intro h<;>try simp at h
 ·have fX : ¬ a5z l := fun q => by have := (q.2 a (List.mem_of_getElem? ha)).1; omega
  refine dv 3 ?_
  refine x3x rfl ?_ rfl
  exact congrArg (fun b : Bool => [AV.pv (.bool b)]) (a4p fX)
 have h5 : a.rules.length ≤ 4 := by omega
 refine dv 4 ?_
 refine x5x (ι := Nat) (fun k γ2 => [(5, pI (k : Int))]) (fun k γ2 => []) (fun k => k ≤ a.rules.length ∧ c7o a.rules (fun j r => (0 ≤ r.kind ∧ r.kind ≤ 3) ∧ c7p r ∧ ∀ p, 0 < j → a.rules[j - 1]? = some p → p.kind < r.kind) k) (fun k => a.rules.length - k) (r3r [0, 3, 4] rfl) HE.nil 0 ⟨by omega, a1f⟩ [] x6x x4x rfl fun k γ2 hi => ?_
 obtain ⟨k3, k4⟩ := hi
 refine dc 6 (fun K K' => aS ?_ ?_)<;>intro h<;>try simp at h
 ·obtain rfl : k = a.rules.length := by omega
  have hap : e0o a := ⟨h5, fun j r hj => a2v k4 (Nat.le_refl _) j r hj⟩
  refine dv 3 ?_
  refine x7x (b := 1) rfl rfl (by omega) (dv 1 ?_)
  exact ⟨i + 1, ⟨⟨by omega, fun j q hj hq => by by_cases e : j = i; (subst e; rw [ha] at hq; cases hq; exact hap); exact k2 j q (by omega) hq⟩, by omega⟩, [], x6x, x6x, x4x, x4x, rfl⟩
 obtain ⟨r, hr⟩ := gE a.rules k
 refine dv 9 fun K K' => ?_
 refine x0x rfl rfl rfl (y7y ..) (dc 2 (aS ?_ ?_))<;>intro h<;>try simp at h
 ·have fR : ¬ ((0 ≤ r.kind ∧ r.kind ≤ 3) ∧ c7p r ∧ ∀ p, 0 < k → a.rules[k - 1]? = some p → p.kind < r.kind) := by (rintro ⟨q1, q2, q3⟩; omega)
  refine dv 25 ?_
  have fX : ¬ a5z l := fun q => fR ((q.2 a (List.mem_of_getElem? ha)).2 k r hr)
  refine dv 3 ?_
  refine x3x rfl ?_ rfl
  exact congrArg (fun b : Bool => [AV.pv (.bool b)]) (a4p fX)
 refine dv 4 ?_
 refine x0x rfl rfl rfl (b2t c r (hb a (List.mem_of_getElem? ha) r (List.mem_of_getElem? hr))) ?_
 refine dc 3 (aS ?_ ?_)<;>intro hg13<;>try simp at hg13
 ·have hnr : ¬ c7p r := a0x (by simpa using hg13)
  have fR : ¬ ((0 ≤ r.kind ∧ r.kind ≤ 3) ∧ c7p r ∧ ∀ p, 0 < k → a.rules[k - 1]? = some p → p.kind < r.kind) := by (rintro ⟨q1, q2, q3⟩; exact absurd q2 hnr)
  refine dv 17 ?_
  have fX : ¬ a5z l := fun q => fR ((q.2 a (List.mem_of_getElem? ha)).2 k r hr)
  refine dv 3 ?_
  refine x3x rfl ?_ rfl
  exact congrArg (fun b : Bool => [AV.pv (.bool b)]) (a4p fX)
 have hru : c7p r := a0r.1 (by simpa using hg13)
 refine dc 3 (aS ?_ ?_)<;>intro h<;>try simp at h
 ·have hR : ((0 ≤ r.kind ∧ r.kind ≤ 3) ∧ c7p r ∧ ∀ p, 0 < k → a.rules[k - 1]? = some p → p.kind < r.kind) := ⟨by omega, hru, fun p h0 => by omega⟩
  refine dv 17 ?_
  refine x7x (b := 1) rfl rfl (by omega) (dv 1 ?_)
  exact ⟨k + 1, ⟨⟨by omega, r5r k4 hr hR⟩, by omega⟩, [], x6x, x6x, x4x, x4x, rfl⟩
 have k0 : 0 < k := by omega
 obtain ⟨p, hp⟩ := gE a.rules (k - 1)
 refine dv 2 ?_
 refine r0r (b := 1) rfl rfl (by omega) (by omega) (dc 11 (aS ?_ ?_))<;>intro h<;>try simp at h
 ·have hR : ((0 ≤ r.kind ∧ r.kind ≤ 3) ∧ c7p r ∧ ∀ p, 0 < k → a.rules[k - 1]? = some p → p.kind < r.kind) := by exact ⟨by omega, hru, fun p2 h0 hp2 => by rw [hp] at hp2; cases hp2; omega⟩
  refine dv 3 ?_
  refine x7x (b := 1) rfl rfl (by omega) (dv 1 ?_)
  exact ⟨k + 1, ⟨⟨by omega, r5r k4 hr hR⟩, by omega⟩, [], x6x, x6x, x4x, x4x, rfl⟩
 have fR : ¬ ((0 ≤ r.kind ∧ r.kind ≤ 3) ∧ c7p r ∧ ∀ p, 0 < k → a.rules[k - 1]? = some p → p.kind < r.kind) := by (rintro ⟨q1, q2, q3⟩; (have := q3 p (by omega) hp; omega))
 have fX : ¬ a5z l := fun q => fR ((q.2 a (List.mem_of_getElem? ha)).2 k r hr)
 refine dv 3 ?_
 refine x3x rfl ?_ rfl
 exact congrArg (fun b : Bool => [AV.pv (.bool b)]) (a4p fX)
end
section
theorem a1e (S : Rn) (e : Ev) (r : Int) : Meth Tryz.prog 338 3 [0, 1, 2] [.ptr 0 0 0, .pv (.int .i64 r)] [(0, (0, .box 362 [pI S.s.x, pI S.s.y, pI S.s.count, pI e.time, pI e.to, pI e.from', pI e.count, pI e.n, pI e.kind, pI e.arg, .ref 1 0, .ref 2 0])), (1, (0, .row 56 7 ((S.sends).map z2z))), (2, (0, .row 141 5 ((S.outs).map r9r)))] (.pv (.int .i64 (if r = 0 then S.s.x else S.s.y))) [] := by
 refine mX Tryz.f338 [.pv (.int .i64 (if r = 0 then S.s.x else S.s.y))] 3 0 fun γ => ?_
 refine dc 6 (fun K K' => aI ?_ ?_)<;>intro hc2<;>try simp at hc2
 ·have k : r = 0 := hc2
  refine dv 8 ?_
  exact ⟨[γ 0, γ 1, γ 2], rfl, congrArg (fun v : Int => some [AV.pv (.int .i64 v)]) (if_pos k).symm, x4x⟩
 have k : ¬ r = 0 := hc2
 refine dv 9 ?_
 exact ⟨[γ 0, γ 1, γ 2], rfl, congrArg (fun v : Int => some [AV.pv (.int .i64 v)]) (if_neg k).symm, x4x⟩
theorem a4d (S : Rn) (e : Ev) (r n : Int) : Meth Tryz.prog 337 3 [0, 1, 2] [.ptr 0 0 0, .pv (.int .i64 r), .pv (.int .i64 n)] [(0, (0, .box 362 [pI S.s.x, pI S.s.y, pI S.s.count, pI e.time, pI e.to, pI e.from', pI e.count, pI e.n, pI e.kind, pI e.arg, .ref 1 0, .ref 2 0])), (1, (0, .row 56 7 ((S.sends).map z2z))), (2, (0, .row 141 5 ((S.outs).map r9r)))] (.tup []) [(0, (0, .box 362 [pI (f2o S.s r n).x, pI (f2o S.s r n).y, pI (f2o S.s r n).count, pI e.time, pI e.to, pI e.from', pI e.count, pI e.n, pI e.kind, pI e.arg, .ref 1 0, .ref 2 0]))] := by
 refine mX Tryz.f337 [] 3 0 fun γ => ?_
 refine dc 3 (aI ?_ ?_)<;>intro hc1<;>try simp at hc1
 ·have k : r = 0 := hc1
  refine dv 3 ?_
  refine u6u rfl rfl rfl (dv 4 ?_)
  exact ⟨[γ 0, γ 1, γ 2], rfl, rfl, HE.box rfl (by unfold f2o; rw [if_pos k]; rfl) (HE.same rfl (HE.same rfl HE.nil))⟩
 have k : ¬ r = 0 := hc1
 refine dv 3 ?_
 refine u6u rfl rfl rfl (dv 4 ?_)
 exact ⟨[γ 0, γ 1, γ 2], rfl, rfl, HE.box rfl (by unfold f2o; rw [if_neg k]; rfl) (HE.same rfl (HE.same rfl HE.nil))⟩
theorem c2m (S : Rn) (e : Ev) (o : Op_) (ho : b0o o) (hs : S.sends.length ≤ 1000) (hu : S.outs.length ≤ 1000) : MethE Tryz.prog 336 3 [.ptr 0 0 0, .agg (b2j o)] [(0, (0, .box 362 [pI S.s.x, pI S.s.y, pI S.s.count, pI e.time, pI e.to, pI e.from', pI e.count, pI e.n, pI e.kind, pI e.arg, .ref 1 0, .ref 2 0])), (1, (0, .row 56 7 ((S.sends).map z2z))), (2, (0, .row 141 5 ((S.outs).map r9r)))] (ι := Rn × Int) (fun S' => S'.1.sends.length ≤ S.sends.length + 1 ∧ S'.1.outs.length ≤ S.outs.length + 1 ∧ (∀ q ∈ S'.1.outs, q ∈ S.outs ∨ q.time = e.time) ∧ 0 ≤ S'.2 ∧ S'.2 ≤ 8) (fun S' => [0]) (fun S' => .pv (.int .i64 S'.2)) (fun S' => [(0, (0, .box 362 [pI S'.1.s.x, pI S'.1.s.y, pI S'.1.s.count, pI e.time, pI e.to, pI e.from', pI e.count, pI e.n, pI e.kind, pI e.arg, .ref 1 0, .ref 2 0])), (1, (0, .row 56 7 ((S'.1.sends).map z2z))), (2, (0, .row 141 5 ((S'.1.outs).map r9r)))]) := by
 refine b4v v7v (fn := Tryz.f336) (by kernel_rfl) (by kernel_rfl) rfl (ι := Rn × Int) (OF := fun S' => [.pv (.int .i64 S'.2)]) 3 5 (s2s rfl) (by rfl) (fun _ _ => by rfl) (by repeat (first | exact BndH.nil | refine BndH.box rfl ?_ | refine BndH.row (q7q fun _ => rfl) ?_)) (fun _ _ => (by repeat (first | exact BndH.nil | refine BndH.box rfl ?_ | refine BndH.row (q7q fun _ => rfl) ?_))) (fun _ _ => by rfl) fun γ => ?_
 show Ex Tryz.prog _ _ [(0, .ptr 0 (γ 0) 0), (1, .agg (b2j o))] [(0, ((γ 0), .box 362 [pI S.s.x, pI S.s.y, pI S.s.count, pI e.time, pI e.to, pI e.from', pI e.count, pI e.n, pI e.kind, pI e.arg, .ref 1 (γ 1), .ref 2 (γ 2)])), (1, ((γ 1), .row 56 7 ((S.sends).map z2z))), (2, ((γ 2), .row 141 5 ((S.outs).map r9r))), (7, (0, .dead)), (6, (0, .dead)), (5, (0, .dead)), (4, (0, .dead)), (3, (0, .dead))] _
 refine dv 1 ?_
 refine y2y (id := 3) rfl rfl rfl (w7w rfl (a4t fun K K' => ?_))
 refine exR (v1v rfl a0w rfl rfl q9q rfl rfl (y9y rfl q9q rfl rfl (a8j (exR (b3t rfl rfl rfl (w7w rfl (a0z rfl ?_ ?_)))))))<;>intro u<;>try simp at u
 ·refine exG (v5v rfl (v1v rfl a0w rfl rfl q9q rfl rfl (y9y rfl q9q rfl rfl (v1v rfl a0w rfl rfl q9q rfl rfl (y9y rfl q9q rfl rfl ?_)))))
  refine rlM [0, 1, 2] [_, _, _] (a4d S e (o.a) (o.b)) rfl rfl rfl ?_
  refine hkL (by assumption) ?_
  refine exR (w7w rfl (b0w ?_))
  exact ⟨.inr rfl, (⟨⟨_, _, _⟩, S.sends, S.outs⟩, 0), ⟨by exact Nat.le_succ _, by exact Nat.le_succ _, by exact (fun q h => .inl h), by show (0 : Int) ≤ 0; omega, by show (0 : Int) ≤ 8; omega⟩, [γ 0, _, _], rfl, rfl, HE.box rfl rfl (HE.row rfl rfl (HE.row rfl rfl HE.nil))⟩
 refine dc 3 (aI ?_ ?_)<;>intro u<;>try simp at u
 ·refine exH (v5v rfl (v1v rfl a0w rfl rfl q9q rfl rfl (y9y rfl q9q rfl rfl (v5v rfl (v1v rfl a0w rfl rfl q9q rfl rfl (y9y rfl q9q rfl rfl ?_))))))
  refine rlM [0, 1, 2] [_, _, _] (a1e S e (o.a)) rfl rfl rfl ?_
  refine v5v rfl (v1v rfl a0w rfl rfl q9q rfl rfl (y9y rfl q9q rfl rfl ?_))
  refine rlM [0, 1, 2] [_, _, _] (a1e S e (o.b)) rfl rfl rfl ?_
  refine u6u rfl rfl rfl ?_
  refine rlM [0, 1, 2] [_, _, _] (a4d S e (o.a) (IntKind.i64.wrap ((if o.a = 0 then S.s.x else S.s.y) + (if o.b = 0 then S.s.x else S.s.y)))) rfl rfl rfl ?_
  refine ⟨by kernel_rfl, hkL (by assumption) ?_⟩
  refine exR (w7w rfl (b0w ?_))
  exact ⟨.inr rfl, (⟨⟨_, _, _⟩, S.sends, S.outs⟩, 0), ⟨by exact Nat.le_succ _, by exact Nat.le_succ _, by exact (fun q h => .inl h), by show (0 : Int) ≤ 0; omega, by show (0 : Int) ≤ 8; omega⟩, [γ 0, _, _], rfl, rfl, HE.box rfl rfl (HE.row rfl rfl (HE.row rfl rfl HE.nil))⟩
 refine exR (b3t rfl rfl rfl (w7w rfl (a0z rfl ?_ ?_)))<;>intro u<;>try simp at u
 ·refine exH (v5v rfl (v1v rfl a0w rfl rfl q9q rfl rfl (y9y rfl q9q rfl rfl (v5v rfl (v1v rfl a0w rfl rfl q9q rfl rfl (y9y rfl q9q rfl rfl ?_))))))
  refine rlM [0, 1, 2] [_, _, _] (a1e S e (o.a)) rfl rfl rfl ?_
  refine v1v rfl a0w rfl rfl q9q rfl rfl (y9y rfl q9q rfl rfl (u6u rfl rfl rfl ?_))
  refine rlM [0, 1, 2] [_, _, _] (a4d S e (o.a) (IntKind.i64.wrap ((if o.a = 0 then S.s.x else S.s.y) + o.b))) rfl rfl rfl ?_
  refine ⟨by kernel_rfl, hkL (by assumption) ?_⟩
  refine exR (w7w rfl (b0w ?_))
  exact ⟨.inr rfl, (⟨⟨_, _, _⟩, S.sends, S.outs⟩, 0), ⟨by exact Nat.le_succ _, by exact Nat.le_succ _, by exact (fun q h => .inl h), by show (0 : Int) ≤ 0; omega, by show (0 : Int) ≤ 8; omega⟩, [γ 0, _, _], rfl, rfl, HE.box rfl rfl (HE.row rfl rfl (HE.row rfl rfl HE.nil))⟩
 refine dc 3 (aI ?_ ?_)<;>intro u<;>try simp at u
 ·refine exH (v5v rfl (v1v rfl a0w rfl rfl q9q rfl rfl (y9y rfl q9q rfl rfl (v5v rfl (b8u rfl rfl (v1v rfl e5p rfl rfl z3z rfl rfl (v1v rfl z3z rfl rfl q9q rfl rfl (y9y rfl q9q rfl rfl ?_))))))))
  refine rlM [0, 1, 2] [_, _, _] (a4d S e (o.a) (e.arg)) rfl rfl rfl ?_
  refine ⟨by kernel_rfl, hkL (by assumption) ?_⟩
  refine exR (w7w rfl (b0w ?_))
  exact ⟨.inr rfl, (⟨⟨_, _, _⟩, S.sends, S.outs⟩, 0), ⟨by exact Nat.le_succ _, by exact Nat.le_succ _, by exact (fun q h => .inl h), by show (0 : Int) ≤ 0; omega, by show (0 : Int) ≤ 8; omega⟩, [γ 0, _, _], rfl, rfl, HE.box rfl rfl (HE.row rfl rfl (HE.row rfl rfl HE.nil))⟩
 refine dc 3 (aI ?_ ?_)<;>intro hc6<;>try simp at hc6
 ·have k5 : o.do' = 5 := hc6
  have hoc : 1 ≤ o.c ∧ o.c ≤ 8 := by unfold b0o at ho; omega
  refine dv 4 ?_
  refine rlM [0, 1, 2] [_, _, _] (a1e S e (o.a)) rfl rfl rfl ?_
  refine dc 3 (aI ?_ ?_)<;>intro u<;>try simp at u
  ·refine dv 5 ?_
   exact ⟨(⟨⟨_, _, _⟩, S.sends, S.outs⟩, o.c), ⟨by exact Nat.le_succ _, by exact Nat.le_succ _, by exact (fun q h => .inl h), by show (0 : Int) ≤ o.c; omega, by show (o.c : Int) ≤ 8; omega⟩, [γ 0, _, _], rfl, rfl, x4x⟩
  refine dv 4 ?_
  exact ⟨(⟨⟨_, _, _⟩, S.sends, S.outs⟩, 0), ⟨by exact Nat.le_succ _, by exact Nat.le_succ _, by exact (fun q h => .inl h), by show (0 : Int) ≤ 0; omega, by show (0 : Int) ≤ 8; omega⟩, [γ 0, _, _], rfl, rfl, x4x⟩
 refine dc 3 (aS ?_ ?_)<;>intro u<;>try simp at u
 ·refine dc 3 (aS ?_ ?_)<;>intro u<;>try simp at u
  ·refine dv 4 ?_
   exact ⟨(⟨⟨_, _, _⟩, S.sends, S.outs⟩, 0), ⟨by exact Nat.le_succ _, by exact Nat.le_succ _, by exact (fun q h => .inl h), by show (0 : Int) ≤ 0; omega, by show (0 : Int) ≤ 8; omega⟩, [γ 0, _, _], rfl, rfl, x4x⟩
  refine dv 25 ?_
  refine a4e (n := S.outs.length) rfl a0l rfl rfl (List.length_map _) ?_
  refine dv 3 ?_
  refine rlM [0, 1, 2] [_, _, _] (a1e S e (o.a)) rfl rfl rfl ?_
  refine rlB w6w c4n ?_
  refine y5y (id := 6) a0l rfl w6w rfl rfl rfl rfl rfl rfl ?_
  refine y6y (zs := (S.outs ++ [(Ou.mk e.time e.to S.s.count (S.outs.length : Int) (if o.a = 0 then S.s.x else S.s.y))]).map r9r) rfl rfl a0l rfl w6w rfl rfl rfl rfl (by rfl) (z8z r9r S.outs (Ou.mk e.time e.to S.s.count (S.outs.length : Int) (if o.a = 0 then S.s.x else S.s.y))) (by (simp only [a0f, r7r, s3s, s6s, a0v, a3d, T141]; omega)) ?_
  refine dv 6 ?_
  exact ⟨(⟨⟨_, _, _⟩, S.sends, S.outs ++ [(Ou.mk e.time e.to S.s.count (S.outs.length : Int) (if o.a = 0 then S.s.x else S.s.y))]⟩, 0), ⟨by exact Nat.le_succ _, by simp, by exact (fun q h => by rcases List.mem_append.1 h with h | h; exact .inl h; exact .inr (by rw [List.mem_singleton.1 h])), by show (0 : Int) ≤ 0; omega, by show (0 : Int) ≤ 8; omega⟩, [γ 0, _, _], rfl, rfl, x4x⟩
 refine dv 8 ?_
 refine u6u rfl rfl rfl (dc 1 (aS ?_ ?_))<;>intro u<;>try simp at u
 ·refine dv 4 ?_
  exact ⟨(⟨⟨_, _, _⟩, S.sends, S.outs⟩, 0), ⟨by exact Nat.le_succ _, by exact Nat.le_succ _, by exact (fun q h => .inl h), by show (0 : Int) ≤ 0; omega, by show (0 : Int) ≤ 8; omega⟩, [γ 0, _, _], rfl, rfl, x4x⟩
 refine dv 13 ?_
 refine u6u rfl rfl rfl (dv 16 ?_)
 refine a4e (n := S.sends.length) rfl v2v rfl rfl (List.length_map _) ?_
 refine dv 5 ?_
 refine rlM [0, 1, 2] [_, _, _] (a1e S e (o.d)) rfl rfl rfl ?_
 refine rlB z3z a8c ?_
 refine y5y (id := 4) v2v rfl z3z rfl rfl rfl rfl rfl rfl ?_
 refine y6y (zs := (S.sends ++ [(Ev.mk (IntKind.i64.wrap (e.time + o.c)) o.a e.to S.s.count (S.sends.length : Int) o.b (if o.d = 0 then S.s.x else S.s.y))]).map z2z) rfl rfl v2v rfl z3z rfl rfl rfl rfl (by rfl) (z8z z2z S.sends (Ev.mk (IntKind.i64.wrap (e.time + o.c)) o.a e.to S.s.count (S.sends.length : Int) o.b (if o.d = 0 then S.s.x else S.s.y))) (by (simp only [a0f, r7r, s3s, s6s, a0v, a3d, T56]; omega)) ?_
 refine dv 6 ?_
 exact ⟨(⟨⟨_, _, _⟩, S.sends ++ [(Ev.mk (IntKind.i64.wrap (e.time + o.c)) o.a e.to S.s.count (S.sends.length : Int) o.b (if o.d = 0 then S.s.x else S.s.y))], S.outs⟩, 0), ⟨by simp, by exact Nat.le_succ _, by exact (fun q h => .inl h), by show (0 : Int) ≤ 0; omega, by show (0 : Int) ≤ 8; omega⟩, [γ 0, _, _], rfl, rfl, x4x⟩
theorem c7k (a : Ap) (s : St) (e : Ev) (hb : ∀ r ∈ a.rules, r.ops.length ≤ 1048576) : MethE Tryz.prog 335 0 [.agg (b6v true a), .agg (a1v s), .agg (z2z e)] [] (ι := Rn) (fun S' => S'.sends.length ≤ 32 ∧ S'.outs.length ≤ 32 ∧ ∀ q ∈ S'.outs, q.time = e.time) (fun S' => []) (fun S' => .tup [.agg (a1v S'.s), a0g true S'.sends, s0s true S'.outs]) (fun S' => []) := by
 refine mE (ι := Rn) Tryz.f335 (fun S' => [.agg (a1v S'.s), a0g true S'.sends, s0s true S'.outs]) 0 12 fun γ => ?_
 refine dv 1 ?_
 refine y2y (id := 0) rfl rfl rfl (y2y (id := 1) rfl rfl rfl (y2y (id := 2) rfl rfl rfl (x2x (id := 3) a7j c8a rfl (dv 5 fun K K' => ?_))))
 refine rlB a4u b3s ?_
 refine rlB a4u b3s ?_
 refine rlB a4u b3s ?_
 refine q5q (id := 4) c5l rfl a4u rfl rfl rfl rfl (.val rfl rfl (.val rfl rfl (.val rfl rfl (.val rfl rfl .nil)))) rfl (s2s rfl) (s2s rfl) (s2s rfl) rfl rfl ?_
 refine b7s rfl rfl rfl (.ref rfl (e1o a) .nil) (a8n false (f0i a) (by intro x hx; simp only [f0i, List.mem_cons, List.not_mem_nil, or_false] at hx; rcases hx with rfl | rfl | rfl | rfl <;> first | exact hb | (intro r hr; cases hr))) (.pv _) ?_
 refine dc 2 (aS ?_ ?_)<;>intro hg2<;>try simp at hg2
 ·refine dv 10 ?_
  refine rlB a7j c8a ?_
  refine x9x (id := 5) v2v rfl z3z rfl (x9x (id := 6) a0l rfl w6w rfl (dv 3 ?_))
  refine r1r (f := z2z) (l := []) 7 rfl rfl (fun _ => rfl) ?_
  refine r1r (f := r9r) (l := []) 8 rfl rfl (fun _ => rfl) ?_
  refine dv 1 ?_
  exact ⟨⟨⟨0, 0, 0⟩, [], []⟩, ⟨Nat.zero_le _, Nat.zero_le _, fun q h => by cases h⟩, [], rfl, rfl, x4x⟩
 have fA : e0o a := e9y (a0r.1 (by simpa using hg2))
 refine dv 1 ?_
 refine x0x rfl rfl rfl (a6m ..) (dc 3 (aS ?_ ?_))<;>intro u<;>try simp at u
 ·refine dv 5 ?_
  refine rlB a7j c8a ?_
  refine x9x (id := 5) v2v rfl z3z rfl (x9x (id := 6) a0l rfl w6w rfl (dv 3 ?_))
  refine r1r (f := z2z) (l := []) 7 rfl rfl (fun _ => rfl) ?_
  refine r1r (f := r9r) (l := []) 8 rfl rfl (fun _ => rfl) ?_
  refine dv 1 ?_
  exact ⟨⟨⟨0, 0, 0⟩, [], []⟩, ⟨Nat.zero_le _, Nat.zero_le _, fun q h => by cases h⟩, [], rfl, rfl, x4x⟩
 refine dv 1 ?_
 refine x0x rfl rfl rfl (a6n ..) (dc 2 (aI ?_ ?_))<;>intro u<;>try simp at u
 ·refine dv 1 ?_
  refine rlB a7j c8a ?_
  refine x9x (id := 5) v2v rfl z3z rfl (x9x (id := 6) a0l rfl w6w rfl (dv 3 ?_))
  refine r1r (f := z2z) (l := []) 7 rfl rfl (fun _ => rfl) ?_
  refine r1r (f := r9r) (l := []) 8 rfl rfl (fun _ => rfl) ?_
  refine dv 1 ?_
  exact ⟨⟨⟨0, 0, 0⟩, [], []⟩, ⟨Nat.zero_le _, Nat.zero_le _, fun q h => by cases h⟩, [], rfl, rfl, x4x⟩
 refine dc 6 (fun K K' => aI ?_ ?_)<;>intro u<;>try simp at u
 ·refine dv 2 ?_
  refine x9x (id := 7) v2v rfl z3z rfl (x9x (id := 8) a0l rfl w6w rfl (dv 3 ?_))
  refine r1r (f := z2z) (l := []) 7 rfl rfl (fun _ => rfl) ?_
  refine r1r (f := r9r) (l := []) 8 rfl rfl (fun _ => rfl) ?_
  refine dv 1 ?_
  exact ⟨⟨s, [], []⟩, ⟨Nat.zero_le _, Nat.zero_le _, fun q h => by cases h⟩, [], rfl, rfl, x4x⟩
 refine dv 4 ?_
 refine x9x (id := 9) v2v rfl z3z rfl (x9x (id := 10) a0l rfl w6w rfl (rlB e5p f1b ?_))
 refine y2y (id := 11) rfl rfl rfl (dv 5 fun K K' => ?_)
 refine x5x (ι := Rn × Nat) (fun p γ1 => [(10, pI (p.2 : Int))]) (fun p γ1 => [(9, ((γ1 9), .row 56 7 ((p.1.sends).map z2z))), (10, ((γ1 10), .row 141 5 ((p.1.outs).map r9r))), (11, ((0 + 1), .box 362 [pI p.1.s.x, pI p.1.s.y, pI p.1.s.count, pI e.time, pI e.to, pI e.from', pI e.count, pI e.n, pI e.kind, pI e.arg, .ref 9 (γ1 9), .ref 10 (γ1 10)]))]) (fun p => p.2 ≤ a.rules.length ∧ p.1.sends.length ≤ 8 * p.2 ∧ p.1.outs.length ≤ 8 * p.2 ∧ ∀ q ∈ p.1.outs, q.time = e.time) (fun p => a.rules.length - p.2) (r3r [3, 5, 6, 9] rfl) (a1c [0, 1, 2, 3, 4, 5, 6, 7, 8] rfl) (⟨s, [], []⟩, 0) ⟨Nat.zero_le _, Nat.zero_le _, Nat.zero_le _, fun q h => by cases h⟩ [0, 0, 0, 0, 0, 0, 0, 0, 0, _, _] x6x (HE.row rfl (by rfl) (HE.row rfl (by rfl) (HE.box rfl (by rfl) HE.nil))) rfl fun p γ1 hi => ?_
 obtain ⟨S, i⟩ := p
 obtain ⟨h1, h2, h3, h4⟩ := hi
 dsimp only at h1 h2 h3 h4 ⊢
 refine dc 7 (fun K K' => aS ?_ ?_)<;>intro u<;>try simp at u
 ·have ha4 := fA.1
  refine dv 8 ?_
  refine u6u rfl rfl rfl (dv 20 ?_)
  refine r1r 7 rfl rfl (fun _ => rfl) ?_
  refine r1r 8 rfl rfl (fun _ => rfl) ?_
  refine dv 1 ?_
  exact ⟨⟨⟨S.s.x, S.s.y, IntKind.i64.wrap (S.s.count + 1)⟩, S.sends, S.outs⟩, ⟨by show S.sends.length ≤ 32; omega, by show S.outs.length ≤ 32; omega, by exact h4⟩, [], rfl, rfl, x4x⟩
 obtain ⟨r, hr⟩ := gE a.rules i
 have hro := fA.2 i r hr
 have hr8 := hro.2.1.2.1
 have ha4 := fA.1
 refine dc 14 (fun K K' K K' => aI ?_ ?_)<;>intro u<;>try simp at u
 ·refine dv 3 ?_
  refine x7x (b := 1) rfl rfl (by omega) (dv 1 ?_)
  exact ⟨(S, i + 1), ⟨(by exact ⟨by show i + 1 ≤ _; omega, by show S.sends.length ≤ 8 * (i + 1); omega, by show S.outs.length ≤ 8 * (i + 1); omega, h4⟩), (by show a.rules.length - (i + 1) < a.rules.length - i; omega)⟩, [0, 0, 0, 0, 0, 0, 0, 0, 0, _, _], x6x, x6x, x4x, x4x, rfl⟩
 refine dv 12 ?_
 refine x5x (ι := Rn × Nat × Nat) (fun p γ2 => [(12, pI (p.2.1 : Int))]) (fun p γ2 => [(9, ((γ2 9), .row 56 7 ((p.1.sends).map z2z))), (10, ((γ2 10), .row 141 5 ((p.1.outs).map r9r))), (11, ((0 + 1), .box 362 [pI p.1.s.x, pI p.1.s.y, pI p.1.s.count, pI e.time, pI e.to, pI e.from', pI e.count, pI e.n, pI e.kind, pI e.arg, .ref 9 (γ2 9), .ref 10 (γ2 10)]))]) (fun p => p.2.1 ≤ 20 ∧ p.2.2 ≤ p.2.1 ∧ p.2.2 ≤ 8 ∧ p.1.sends.length ≤ 8 * i + p.2.2 ∧ p.1.outs.length ≤ 8 * i + p.2.2 ∧ ∀ q ∈ p.1.outs, q.time = e.time) (fun p => 20 - p.2.1) (r3r [3, 5, 6, 9, 10, 11] rfl) (a1c [0, 1, 2, 3, 4, 5, 6, 7, 8] rfl) (S, 0, 0) ⟨Nat.zero_le _, Nat.le_refl _, Nat.zero_le _, h2, h3, h4⟩ [0, 0, 0, 0, 0, 0, 0, 0, 0, _, _] x6x x4x rfl fun p γ2 hi => ?_
 obtain ⟨S, k, m⟩ := p
 obtain ⟨k1, k2, k3, k3a, k4, k5⟩ := hi
 dsimp only at k1 k2 k3 k3a k4 k5 ⊢
 refine dc 6 (fun K K' => aS ?_ ?_)<;>intro u<;>try simp at u
 ·refine dv 3 ?_
  refine x7x (b := 1) rfl rfl (by omega) (dv 1 ?_)
  exact ⟨(S, i + 1), ⟨(by exact ⟨by show i + 1 ≤ _; omega, by show S.sends.length ≤ 8 * (i + 1); omega, by show S.outs.length ≤ 8 * (i + 1); omega, k5⟩), (by show a.rules.length - (i + 1) < a.rules.length - i; omega)⟩, [0, 0, 0, 0, 0, 0, 0, 0, 0, _, _], x6x, x6x, x4x, x4x, rfl⟩
 obtain ⟨o, ho⟩ := gE r.ops k
 have hok := hro.2.1.1 o (List.mem_of_getElem? ho)
 refine dv 3 fun K K' => ?_
 refine a6j fun B X0 w0 => ?_
 refine txR 6 rfl rfl (dv 5 ?_)
 refine v9v (out := .agg (b2j o)) rfl a0w rfl ?_
 refine txM [11, 9, 10] [_, _, _] (c2m S e o hok (by omega) (by omega)) rfl rfl rfl rfl fun j hj => ?_
 obtain ⟨q1, q2, q3, q4, q5⟩ := hj
 obtain ⟨sk, hsk⟩ : ∃ sk : Nat, j.2 = (sk : Int) := ⟨j.2.toNat, by omega⟩
 rw [hsk]
 refine txR 2 rfl rfl (x7x rfl rfl (by omega) (dv 1 ?_))
 refine z4z rfl (dv 2 ?_)
 refine x7x (b := 1) rfl rfl (by omega) (dv 1 ?_)
 exact ⟨(j.1, k + sk + 1, m + 1), ⟨(by exact ⟨by show k + sk + 1 ≤ 20; omega, by show m + 1 ≤ k + sk + 1; omega, by show m + 1 ≤ 8; omega, by show j.1.sends.length ≤ 8 * i + (m + 1); omega, by show j.1.outs.length ≤ 8 * i + (m + 1); omega, fun q hq => (q3 q hq).elim (k5 q) (fun h => h)⟩), (by show 20 - (k + sk + 1) < 20 - k; omega)⟩, [0, 0, 0, 0, 0, 0, 0, 0, 0, _, _], x6x, x6x, x4x, x4x, rfl⟩
end
section
theorem a2r (c : Bool) (l : La) (f t : Nat) (hlen : l.done.length ≤ 1000000) (hf : f ≤ 1000000) (ht : t ≤ 1000000) (hb : ∀ p ∈ l.done, p.sends.length ≤ 1000000 ∧ p.outs.length ≤ 1000000) : a0p Tryz.prog 110 [.agg (r2r c l), .pv (.int .i64 (f : Int)), .pv (.int .i64 (t : Int))] (.agg (r2r true (a1p l f t))) := by
 refine pX Tryz.f110 [.agg (r2r true (a1p l f t))] 11 ?_
 refine dv 1 ?_
 refine y2y (id := 0) rfl rfl rfl (x2x (id := 1) a0u a9j rfl (dv 5 ?_))
 refine rlB a0u a9j ?_
 refine x2x (id := 2) a0u a9j rfl (dv 6 fun K K' => ?_)
 refine a1b 2 4 10 58 12 rfl rfl rfl rfl rfl ?_
 refine x5x (ι := Nat) (fun i γ1 => [(8, pI (i : Int))]) (fun i γ1 => [(10, ((γ1 10), .row 58 12 (((l.done.take i).drop f).map (a1w true)))), (2, ((0 + 1), .box 44 [pI l.proc, pI l.base.x, pI l.base.y, pI l.base.count, .ref 10 (γ1 10)])), (3, ((γ1 3), .dead)), (4, ((γ1 4), .dead)), (5, ((γ1 5), .dead)), (6, ((γ1 6), .dead)), (7, ((γ1 7), .dead)), (8, ((γ1 8), .dead)), (9, ((γ1 9), .dead))]) (fun i => f ≤ i ∧ (i = f ∨ (i ≤ t ∧ i ≤ l.done.length))) (fun i => l.done.length - i) (r3r [2, 3, 6, 7] rfl) (a1c [0, 1] rfl) f ⟨Nat.le_refl _, .inl rfl⟩ [0, 0, 0, _, _, _, _, _, _, _, _] x6x (HE.row rfl (by rw [List.drop_of_length_le (by rw [List.length_take]; omega)]; rfl) (HE.box rfl rfl (HE.kill rfl (HE.kill rfl (HE.kill rfl (HE.kill rfl (HE.kill rfl (HE.kill rfl (HE.kill rfl HE.nil))))))))) rfl fun i γ1 hi => ?_
 obtain ⟨k1, k2⟩ := hi
 refine dc 6 (fun K K' => aS ?_ ?_)<;>intro h<;>try simp at h
 ·refine dv 6 ?_
  have hfin : (l.done.take i).drop f = (l.done.take t).drop f := c6m k1 k2 (by omega)
  refine dv 5 ?_
  rw [a1p, ← hfin]
  exact ⟨_, _, rfl, .agg rfl (.cl rfl (.cl rfl (.cl rfl (.cl rfl (.ref rfl (Le.ow_map _ (fun _ => rfl) (fun _ => rfl)) .nil))))) .nil⟩
 refine dc 6 (aS ?_ ?_)<;>intro h<;>try simp at h
 ·have hfin : (l.done.take i).drop f = (l.done.take t).drop f := c6m k1 k2 (by omega)
  refine dv 5 ?_
  rw [a1p, ← hfin]
  exact ⟨_, _, rfl, .agg rfl (.cl rfl (.cl rfl (.cl rfl (.cl rfl (.ref rfl (Le.ow_map _ (fun _ => rfl) (fun _ => rfl)) .nil))))) .nil⟩
 obtain ⟨p, hp⟩ := gE l.done i
 have g1 : i < t := by omega
 obtain ⟨hps, hpo⟩ := hb p (List.mem_of_getElem? hp)
 refine dv 9 fun K K' => ?_
 refine x2x (id := 3) a5g c3h rfl (dv 5 ?_)
 refine y9y (out := .agg (z2z p.ev)) rfl z3z rfl rfl ?_
 refine dv 1 ?_
 refine y9y (out := .agg (a1v p.after)) rfl a7j rfl rfl ?_
 refine x9x (id := 4) v2v rfl z3z rfl (dv 2 ?_)
 refine a1i v7v (zs := (p.sends).map z2z) rfl rfl v2v rfl z3z rfl rfl rfl (z9z (fun _ => rfl) _) rfl (by (simp only [a0f, r7r, s3s, s6s, a0v, a3d, b2n, T56]; omega)) (Le.ow_map _ (fun _ => rfl) (fun _ => rfl)) ?_
 refine x9x (id := 6) a0l rfl w6w rfl (dv 2 ?_)
 refine a1i v7v (zs := (p.outs).map r9r) rfl rfl a0l rfl w6w rfl rfl rfl (z9z (fun _ => rfl) _) rfl (by (simp only [a0f, r7r, s3s, s6s, a0v, a3d, b2n, T141]; omega)) (Le.ow_map _ (fun _ => rfl) (fun _ => rfl)) ?_
 refine rlB a5g c3h ?_
 refine y5y (id := 8) a9i rfl a5g rfl rfl rfl rfl rfl rfl ?_
 refine y6y (zs := ((l.done.take i).drop f ++ [p]).map (a1w true)) rfl rfl a9i rfl a5g rfl rfl rfl rfl (by rfl) (z8z _ _ _) (by (simp only [a0f, r7r, s3s, s6s, a0v, a3d, b2n, T58]; omega)) ?_
 refine dv 4 ?_
 refine x7x (b := 1) rfl rfl (by omega) (dv 1 ?_)
 exact ⟨i + 1, ⟨⟨by omega, .inr ⟨by omega, by omega⟩⟩, by omega⟩, [0, 0, 0, _, _, _, _, _, _, _, _], x6x, x6x, (HE.row rfl (by rw [z7z hp, List.drop_append_of_le_length (by rw [List.length_take]; omega)]) (HE.box rfl rfl (HE.kill rfl (HE.kill rfl (HE.kill rfl (HE.kill rfl (HE.kill rfl (HE.kill rfl (HE.kill rfl HE.nil))))))))), x4x, rfl⟩
theorem a5m (c : Bool) (n : Nd) (hl : n.lanes.length ≤ 1000000) (hk : n.kept.length ≤ 1000000) (ho : n.outs.length ≤ 1000000) (hd : ∀ l ∈ n.lanes, lb l) : Meth Tryz.prog 155 3 [] [.agg (u0u c n)] [(0, (0, .dead)), (1, (0, .dead)), (2, (0, .dead))] (.agg [pI n.id, .pv (.bool n.up), pI n.inc, pI n.g, .ref 0 0, a0g true n.kept, s0s true n.outs, pI n.led, pI 0, .ref 1 0, .ref 2 0, pI 0, pI 41]) [(0, (0, .row 44 5 ((n.lanes.map p6p).map (r2r true)))), (1, (0, .row 190 3 ([vi0, vi0, vi0].map (a3x true)))), (2, (0, .row 3 1 ([0, 0, 0].map a6f)))] := by
 refine mX Tryz.f155 [.agg [pI n.id, .pv (.bool n.up), pI n.inc, pI n.g, .ref 0 0, a0g true n.kept, s0s true n.outs, pI n.led, pI 0, .ref 1 0, .ref 2 0, pI 0, pI 41]] 3 13 fun γ => ?_
 refine dv 1 ?_
 refine y2y (id := 3) rfl rfl rfl (x2x (id := 4) u1u q2q rfl (dv 9 ?_))
 refine x9x (id := 5) v2v rfl z3z rfl (dv 2 ?_)
 refine a1i v7v (zs := (n.kept).map z2z) rfl rfl v2v rfl z3z rfl rfl rfl (z9z (fun _ => rfl) _) rfl (by (simp only [a0f, r7r, s3s, s6s, a0v, a3d, b2n, T56]; omega)) (Le.ow_map _ (fun _ => rfl) (fun _ => rfl)) ?_
 refine x9x (id := 7) a0l rfl w6w rfl (dv 2 ?_)
 refine a1i v7v (zs := (n.outs).map r9r) rfl rfl a0l rfl w6w rfl rfl rfl (z9z (fun _ => rfl) _) rfl (by (simp only [a0f, r7r, s3s, s6s, a0v, a3d, b2n, T141]; omega)) (Le.ow_map _ (fun _ => rfl) (fun _ => rfl)) ?_
 refine dv 2 ?_
 refine rlB u1u q2q ?_
 refine x2x (id := 9) u1u q2q rfl (dv 5 fun K K' => ?_)
 refine a1b 9 4 0 44 5 rfl rfl rfl rfl rfl ?_
 refine x5x (ι := Nat) (fun i γ1 => [(4, pI (i : Int))]) (fun i γ1 => [(0, ((γ1 0), .row 44 5 (((n.lanes.take i).map p6p).map (r2r true)))), (9, ((0 + 1), .box 65 [pI n.id, .pv (.bool n.up), pI n.inc, pI n.g, .ref 0 (γ1 0), a0g true n.kept, s0s true n.outs, pI n.led, pI 0, .pv (.slice none 0 0), .pv (.slice none 0 0), pI 0, pI 41])), (10, ((γ1 10), .dead)), (11, ((γ1 11), .dead))]) (fun i => i ≤ n.lanes.length) (fun i => n.lanes.length - i) (r3r [1, 2, 3] rfl) (a1c [1, 2, 3, 4, 5, 6, 7, 8, 12, 13, 14, 15] rfl) 0 (by omega) [_, 0, 0, 0, 0, 0, 0, 0, 0, 0, _, _] x6x (HE.row rfl (by rw [List.take_zero]; rfl) (HE.box rfl rfl (HE.kill rfl (HE.kill rfl HE.nil)))) rfl fun i γ1 hi => ?_
 refine dc 7 (fun K K' => aI ?_ ?_)<;>intro h<;>try simp at h
 ·obtain ⟨a, ha⟩ := gE n.lanes i
  have had := hd a (List.mem_of_getElem? ha)
  refine dv 11 fun K K' => ?_
  refine x0x rfl rfl rfl (a2r c a 0 0 had.1 (by omega) (by omega) had.2) ?_
  refine y5y (id := 10) a8q rfl a0u rfl rfl rfl rfl rfl rfl ?_
  refine y6y (zs := ((n.lanes.take i).map p6p ++ [p6p a]).map (r2r true)) rfl rfl a8q rfl a0u rfl rfl rfl rfl (by rfl) (z8z _ _ _) (by (simp only [a0f, r7r, s3s, s6s, a0v, a3d, b2n, T44]; omega)) ?_
  refine dv 4 ?_
  refine u6u rfl rfl rfl (dv 1 ?_)
  exact ⟨i + 1, ⟨by omega, by omega⟩, [_, 0, 0, 0, 0, 0, 0, 0, 0, 0, _, _], (Cov.cons' (t := 4) rfl (by rw [y1y (by omega) (by omega)]; rfl) Cov.nil), x6x, (HE.row rfl (by simp only [z7z ha, List.map_append, List.map_cons, List.map_nil]) (HE.box rfl rfl (HE.kill rfl (HE.kill rfl HE.nil)))), x4x, rfl⟩
 obtain rfl : i = n.lanes.length := by omega
 refine dv 5 fun K K' => ?_
 refine a1b 9 9 1 190 3 rfl rfl rfl rfl rfl (a1b 9 10 2 3 1 rfl rfl rfl rfl rfl ?_)
 refine x5x (ι := Nat) (fun i γ2 => [(5, pI (i : Int))]) (fun i γ2 => [(1, ((γ2 1), .row 190 3 ((List.range i).map fun _ => b0z))), (2, ((γ2 2), .row 3 1 ((List.range i).map fun _ => a6f 0))), (9, ((0 + 1), .box 65 [pI n.id, .pv (.bool n.up), pI n.inc, pI n.g, .ref 0 (γ1 0), a0g true n.kept, s0s true n.outs, pI n.led, pI 0, .ref 1 (γ2 1), .ref 2 (γ2 2), pI 0, pI 41])), (12, ((γ2 12), .dead)), (13, ((γ2 13), .dead)), (14, ((γ2 14), .dead)), (15, ((γ2 15), .dead))]) (fun i => i ≤ 3) (fun i => 3 - i) (r3r [2, 3] rfl) (a1c [0, 3, 4, 5, 6, 7, 8, 10, 11] rfl) 0 (by omega) [0, _, _, 0, 0, 0, 0, 0, 0, 0, 0, 0, _, _, _, _] x6x x4x rfl fun i γ2 hi => ?_
 refine dc 4 (fun K K' => aS ?_ ?_)<;>intro h<;>try simp at h
 ·obtain rfl : i = 3 := by omega
  rw [List.take_length]
  refine dv 4 ?_
  refine c8p (f := fun _ => b0z) (f' := fun _ => a3x true vi0) (l := List.range 3) 1 rfl (fun _ => .same (.same (.le rfl .nil rfl .nil))) ?_
  refine dv 1 ?_
  exact ⟨[_, _, _], rfl, rfl, x4x⟩
 refine dv 6 fun K K' => ?_
 refine rlB a0c a9l ?_
 refine y5y (id := 12) b1g rfl a0c rfl rfl rfl rfl rfl rfl ?_
 refine y6y (zs := (List.range i).map (fun _ => b0z) ++ [b0z]) rfl rfl b1g rfl a0c rfl rfl rfl rfl (by rfl) rfl (by (simp only [a0f, r7r, s3s, s6s, a0v, a3d, b2n, T190]; omega)) ?_
 refine dv 5 ?_
 refine a9m (id := 14) a0d rfl q9q rfl rfl rfl rfl rfl ?_
 refine y6y (zs := (List.range i).map (fun _ => a6f 0) ++ [a6f 0]) rfl rfl a0d rfl q9q rfl rfl rfl rfl (by rfl) rfl (by (simp only [a0f, r7r, s3s, s6s, a0v, a3d, b2n, T3]; omega)) ?_
 refine dv 4 ?_
 refine u6u rfl rfl rfl (dv 1 ?_)
 exact ⟨i + 1, ⟨by omega, by omega⟩, [0, _, _, 0, 0, 0, 0, 0, 0, 0, 0, 0, _, _, _, _], (Cov.cons' (t := 5) rfl (by rw [y1y (by omega) (by omega)]; rfl) Cov.nil), x6x, (HE.row rfl (by rw [List.range_succ, List.map_append]; rfl) (HE.row rfl (by rw [List.range_succ, List.map_append]; rfl) (HE.box rfl rfl (HE.kill rfl (HE.kill rfl (HE.kill rfl (HE.kill rfl HE.nil))))))), x4x, rfl⟩
end
section
theorem a4z (c : Bool) (l : La) (h : lb l) : a0p Tryz.prog 110 [.agg (r2r c l), .pv (.int .i64 ((0 : Nat) : Int)), .pv (.int .i64 (l.done.length : Int))] (.agg (r2r true l)) := by
 have := a2r c l 0 l.done.length h.1 (by omega) h.1 h.2
 rw [b5d] at this
 exact this
theorem y0y (c : Bool) (n : Nd) (h : nb n) : Meth Tryz.prog 161 3 [] [.agg (u0u c n)] [(0, (0, .dead)), (1, (0, .dead)), (2, (0, .dead))] (.agg [pI n.id, .pv (.bool n.up), pI n.inc, pI n.g, .ref 0 0, a0g true n.kept, s0s true n.outs, pI n.led, pI n.version, .ref 1 0, .ref 2 0, pI n.round, pI n.low]) [(0, (0, .row 44 5 ((n.lanes).map (r2r true)))), (1, (0, .row 190 3 ((n.views).map (a3x true)))), (2, (0, .row 3 1 (n.known.map a6f)))] := by
 refine mX Tryz.f161 [.agg [pI n.id, .pv (.bool n.up), pI n.inc, pI n.g, .ref 0 0, a0g true n.kept, s0s true n.outs, pI n.led, pI n.version, .ref 1 0, .ref 2 0, pI n.round, pI n.low]] 3 10 fun γ => ?_
 obtain ⟨b1, b2, b3, b4, b5, b6, b7⟩ := h
 refine dv 1 ?_
 refine y2y (id := 3) rfl rfl rfl (x2x (id := 4) u1u q2q rfl (dv 2 ?_))
 refine rlM [0, 11, 12] [_, _, _] (a5m c n b1 b2 b3 b4) rfl rfl rfl ?_
 refine x2x (id := 5) u1u q2q rfl (dv 5 fun K K' => ?_)
 refine x5x (ι := Nat) (fun i γ1 => [(4, pI (i : Int))]) (fun i γ1 => [(0, ((γ 0 + 1), .row 44 5 ((n.lanes.take i ++ (n.lanes.drop i).map p6p).map (r2r true))))]) (fun i => i ≤ n.lanes.length) (fun i => n.lanes.length - i) (r3r [1, 2, 3] rfl) (a1c [1, 2, 3, 4, 5, 6, 7, 8, 9, 10, 11, 12] rfl) 0 (by omega) [] x6x (HE.row rfl (by rw [List.take_zero, List.drop_zero]; rfl) HE.nil) rfl fun i γ1 hi => ?_
 refine dc 7 (fun K K' => aI ?_ ?_)<;>intro o<;>try simp at o
 ·obtain ⟨p, hp⟩ := gE n.lanes i
  have hpl := b4 p (List.mem_of_getElem? hp)
  have hAl : ((n.lanes.take i).map (r2r true)).length = i := by rw [List.length_map, List.length_take]; omega
  rw [p3p hp, List.map_cons, List.map_append, List.map_cons]
  refine dv 19 fun K K' => ?_
  refine x0x rfl rfl rfl (a4z c p hpl) (c0t rfl rfl a8q rfl a0u rfl rfl hAl (c4r hAl rfl rfl a0u rfl rfl rfl rfl (q4q rfl) rfl ?_))
  refine dv 2 ?_
  refine u6u rfl rfl rfl (dv 1 ?_)
  exact ⟨i + 1, ⟨by omega, by omega⟩, [], (Cov.cons' (t := 4) rfl (by rw [y1y (by omega) (by omega)]; rfl) Cov.nil), x6x, (HE.row rfl (by simp only [z7z hp, List.map_append, List.append_assoc]; rfl) HE.nil), x4x, rfl⟩
 obtain rfl : i = n.lanes.length := by omega
 rw [List.take_length, List.drop_length, List.map_nil, List.append_nil]
 refine dv 17 ?_
 refine x9x (id := 1) b1g rfl a0c rfl (dv 6 fun K K' => ?_)
 refine x5x (ι := Nat) (fun j γ2 => [(5, pI (j : Int))]) (fun j γ2 => [(1, ((γ2 1), .row 190 3 ((n.views.take j).map (a3x true)))), (5, ((0 + 1), .box 65 [pI n.id, .pv (.bool n.up), pI n.inc, pI n.g, .ref 0 (γ 0 + 1), a0g true n.kept, s0s true n.outs, pI n.led, pI n.version, .ref 1 (γ2 1), .ref 12 (0 + 1), pI n.round, pI n.low])), (6, ((γ2 6), .dead)), (7, ((γ2 7), .dead)), (8, ((γ2 8), .dead)), (9, ((γ2 9), .dead))]) (fun j => j ≤ n.views.length) (fun j => n.views.length - j) (r3r [1, 2, 3] rfl) (a1c [0, 2, 3, 4, 10, 11, 12] rfl) 0 (by omega) [0, _, 0, 0, 0, 0, _, _, _, _] x6x (HE.row rfl (by rw [List.take_zero]; rfl) (HE.box rfl rfl (HE.kill rfl (HE.kill rfl (HE.kill rfl (HE.kill rfl HE.nil)))))) rfl fun j γ2 hi => ?_
 refine dc 7 (fun K K' => aS ?_ ?_)<;>intro o<;>try simp at o
 ·obtain rfl : j = n.views.length := by omega
  rw [List.take_length]
  refine dv 2 ?_
  refine x9x (id := 2) a0d rfl q9q rfl (dv 2 ?_)
  refine p2p (zs := n.known.map a6f) rfl rfl a0d rfl q9q rfl rfl rfl (z9z (fun _ => rfl) _) rfl (by (simp only [a0f, r7r, s3s, s6s, a0v, a3d, b2n, T3]; omega)) ?_
  refine dv 6 ?_
  exact ⟨[_, _, _], rfl, rfl, x4x⟩
 obtain ⟨v, hv⟩ := gE n.views j
 have hve := b6 v (List.mem_of_getElem? hv)
 refine dv 18 fun K K' => ?_
 refine x9x (id := 6) v2v rfl z3z rfl (dv 6 ?_)
 refine a1i v7v (zs := (v.events).map z2z) rfl rfl v2v rfl z3z rfl rfl rfl (z9z (fun _ => rfl) _) rfl (by (simp only [a0f, r7r, s3s, s6s, a0v, a3d, b2n, T56]; omega)) (Le.ow_map _ (fun _ => rfl) (fun _ => rfl)) ?_
 refine rlB a0c a9l ?_
 refine y5y (id := 8) b1g rfl a0c rfl rfl rfl rfl rfl rfl ?_
 refine y6y (zs := (n.views.take j ++ [v]).map (a3x true)) rfl rfl b1g rfl a0c rfl rfl rfl rfl (by rfl) (z8z _ _ _) (by (simp only [a0f, r7r, s3s, s6s, a0v, a3d, b2n, T190]; omega)) ?_
 refine dv 4 ?_
 refine u6u rfl rfl rfl (dv 1 ?_)
 exact ⟨j + 1, ⟨by omega, by omega⟩, [0, _, 0, 0, 0, 0, _, _, _, _], (Cov.cons' (t := 5) rfl (by rw [y1y (by omega) (by omega)]; rfl) Cov.nil), x6x, (HE.row rfl (by rw [z7z hv]) (HE.box rfl rfl (HE.kill rfl (HE.kill rfl (HE.kill rfl (HE.kill rfl HE.nil)))))), x4x, rfl⟩
end
section
theorem c3t (c c' : Bool) (l : La) (s : List Ev) : a0p Tryz.prog 291 [.agg (r2r c l), a0g c' s] (.pv (.bool (kb (b2e l s)))) := by
 refine pX Tryz.f291 [.pv (.bool (kb (b2e l s)))] 1 ?_
 refine dv 1 ?_
 refine y2y (id := 0) rfl rfl rfl (dv 4 fun K K' => ?_)
 refine x0x rfl rfl rfl (a3n ..) (x0x rfl rfl rfl (a3i ..) (dc 1 (aI ?_ ?_)))<;>intro hc2<;>try simp at hc2
 ·try have hX : ¬ a7o okE a2e s 100 = true := by simpa using hc2
  refine dv 3 ?_
  refine x3x rfl ?_ rfl
  exact congrArg (fun b : Bool => [AV.pv (.bool b)]) (a4p (fun h => hX h.1))
 have hA : a7o okE a2e s 100 = true := hc2
 refine dv 5 fun K K' => ?_
 refine w1w 1 rfl fun hlen => ?_
 refine x5x (ι := Nat) (fun i γ1 => [(5, pI (i : Int))]) (fun i γ1 => []) (fun i => i ≤ s.length ∧ c7o s (fun _ e => e.to = l.proc) i) (fun i => s.length - i) (r3r [1, 2] rfl) (w9w 0 rfl HE.nil) 0 ⟨by omega, a1f⟩ [] x6x x4x rfl fun i γ1 hi => ?_
 obtain ⟨h1, h2⟩ := hi
 refine dc 6 (fun K K' => aS ?_ ?_)<;>intro j<;>try simp at j
 ·have hall := a2v h2 (by omega)
  refine dv 4 ?_
  refine x3x rfl ?_ rfl
  exact congrArg (fun b : Bool => [AV.pv (.bool b)]) (d8z ⟨hA, fun e he => by obtain ⟨i, hi⟩ := List.getElem?_of_mem he; exact hall i e hi⟩)
 obtain ⟨e, he⟩ := gE s i
 refine dc 12 (fun K K' => aS ?_ ?_)<;>intro j<;>try simp at j
 ·have hto : e.to = l.proc := by omega
  refine dv 3 ?_
  refine x7x (b := 1) rfl rfl (by omega) (dv 1 ?_)
  exact ⟨i + 1, ⟨⟨by omega, r5r h2 he hto⟩, by omega⟩, [], x6x, x6x, x4x, x4x, rfl⟩
 have hX : ¬ e.to = l.proc := by omega
 refine dv 3 ?_
 refine x3x rfl ?_ rfl
 exact congrArg (fun b : Bool => [AV.pv (.bool b)]) (a4p (fun h => hX (h.2 e (List.mem_of_getElem? he))))
theorem b2u (c c' : Bool) (l : La) (s : List Ev) : a0p Tryz.prog 241 [.agg (r2r c l), a0g c' s] (.tup [.agg (z2z (b1j l s).1), .pv (.bool (b1j l s).2)]) := by
 refine pX Tryz.f241 [.agg (z2z (b1j l s).1), .pv (.bool (b1j l s).2)] 2 ?_
 have hsm := c6n l.done s
 refine dv 1 ?_
 refine y2y (id := 0) rfl rfl rfl (x2x (id := 1) z3z a8c rfl (dv 4 fun K K' => ?_))
 refine x0x rfl rfl rfl (a3o ..) (dc 2 (aS ?_ ?_))<;>intro hg2<;>try simp at hg2
 ·have fX : ¬ (a6e l = true ∧ b2e l s) := fun h => by have := h.1; simp_all
  refine dv 6 ?_
  refine rlB z3z a8c ?_
  refine dv 3 ?_
  (rw [d1i fX]; exact ⟨_, _, rfl, .agg rfl (.cl rfl (.cl rfl (.cl rfl (.cl rfl (.cl rfl (.cl rfl (.cl rfl .nil))))))) (.cl rfl .nil)⟩)
 have fL : a6e l = true := hg2
 refine dv 2 ?_
 refine x0x rfl rfl rfl (c3t ..) (dc 2 (aI ?_ ?_))<;>intro hc3<;>try simp at hc3
 ·have fX : ¬ (a6e l = true ∧ b2e l s) := fun h => a0x (by simpa using hc3) h.2
  refine dv 1 ?_
  refine rlB z3z a8c ?_
  refine dv 3 ?_
  (rw [d1i fX]; exact ⟨_, _, rfl, .agg rfl (.cl rfl (.cl rfl (.cl rfl (.cl rfl (.cl rfl (.cl rfl (.cl rfl .nil))))))) (.cl rfl .nil)⟩)
 have fF : a6e l = true ∧ b2e l s := ⟨fL, a0r.1 (by simpa using hc3)⟩
 refine dv 4 ?_
 refine x0x rfl rfl rfl (a8w ..) (dv 2 fun K K' => ?_)
 refine w1w 1 rfl fun hlen => ?_
 refine dc 7 (aS ?_ ?_)<;>intro j<;>try simp at j
 ·refine dv 6 ?_
  refine rlB z3z a8c ?_
  refine dv 3 ?_
  (rw [c1m fF, e8j (by omega)]; exact ⟨_, _, rfl, .agg rfl (.cl rfl (.cl rfl (.cl rfl (.cl rfl (.cl rfl (.cl rfl (.cl rfl .nil))))))) (.cl rfl .nil)⟩)
 refine dc 5 (aI ?_ ?_)<;>intro j<;>try simp at j
 ·refine dv 1 ?_
  refine rlB z3z a8c ?_
  refine dv 3 ?_
  (rw [c1m fF, e8k (by omega)]; exact ⟨_, _, rfl, .agg rfl (.cl rfl (.cl rfl (.cl rfl (.cl rfl (.cl rfl (.cl rfl (.cl rfl .nil))))))) (.cl rfl .nil)⟩)
 have hlt : same l.done s < s.length := by omega
 obtain ⟨e, he⟩ : ∃ e, s[same l.done s]? = some e := ⟨_, List.getElem?_eq_getElem hlt⟩
 refine dv 5 ?_
 refine v9v (out := .agg (z2z e)) rfl z3z rfl ?_
 refine dv 3 ?_
 (rw [c1m fF, e8l (by omega) he]; exact ⟨_, _, rfl, .agg rfl (.cl rfl (.cl rfl (.cl rfl (.cl rfl (.cl rfl (.cl rfl (.cl rfl .nil))))))) (.cl rfl .nil)⟩)
end
section
theorem a3z (c : Bool) (l : List Ou) (hl : l.length ≤ 1000000) : a0p Tryz.prog 112 [s0s c l] (s0s true (a0i l)) := by
 refine pX Tryz.f112 [s0s true (a0i l)] 6 ?_
 refine dv 3 ?_
 refine x9x (id := 0) a0l rfl w6w rfl (dv 5 fun K K' => ?_)
 refine r1r (l := ([] : List Ou)) (f := r9r) 3 rfl rfl (fun _ => rfl) ?_
 refine x5x (ι := Nat) (fun i γ1 => [(3, s0s true (a0i (l.take i))), (4, pI (i : Int))]) (fun i γ1 => [(1, ((γ1 1), .dead)), (2, ((γ1 2), .dead)), (3, ((γ1 3), .dead)), (4, ((γ1 4), .dead)), (5, ((γ1 5), .dead))]) (fun i => i ≤ l.length) (fun i => l.length - i) (x8x 0 rfl Cov.nil) (w9w 0 rfl HE.nil) 0 (by omega) [0, _, _, _, _, _] (Cov.cons' (t := 3) rfl (by rw [List.take_zero]; rfl) (x8x 4 rfl Cov.nil)) x4x rfl fun i γ1 hi => ?_
 refine dc 6 (fun K K' => aS ?_ ?_)<;>intro h<;>try simp at h
 ·obtain rfl : i = l.length := by omega
  refine dv 5 ?_
  refine x3x rfl ?_ rfl
  exact congrArg (fun l : List Ou => [s0s true l]) (by rw [List.take_length])
 obtain ⟨x, hx⟩ := gE l i
 have hol : (a0i (l.take i)).length ≤ 1000000 := by rw [b3g, List.length_take]; omega
 refine dv 7 fun K K' => ?_
 refine p9p (ι := Nat) (fun k γ2 => [(5, pI (k : Int))]) (fun k γ2 => []) (fun k => k ≤ (a0i (l.take i)).length ∧ (∀ (j : Nat) y, k ≤ j → (a0i (l.take i))[j]? = some y → b1h x y = true) ∧ (∀ y, 0 < k → (a0i (l.take i))[k - 1]? = some y → b1h x y = false)) (r3r [0, 3, 4] rfl) (a1c [0, 1, 2, 3, 4, 5] rfl) ?_ fun k γ2 hi => ?_
 ·refine dv 1 ?_
  refine x5x (ι := Nat) (fun k γ3 => [(5, pI (k : Int))]) (fun k γ3 => []) (fun k => k ≤ (a0i (l.take i)).length ∧ (∀ (j : Nat) y, k ≤ j → (a0i (l.take i))[j]? = some y → b1h x y = true)) (fun k => k) (r3r [0, 3, 4] rfl) (a1c [0, 1, 2, 3, 4, 5] rfl) (a0i (l.take i)).length ⟨Nat.le_refl _, fun j y hj hy => by have := (List.getElem?_eq_some_iff.1 hy).1; omega⟩ [] x6x x4x rfl fun k γ3 hi => ?_
  obtain ⟨k1, k2⟩ := hi
  refine dc 5 (fun K K' => aS ?_ ?_)<;>intro h<;>try simp at h
  ·have k0 : k = 0 := by omega
   refine dv 12 ?_
   exact ⟨k, ⟨k1, k2, fun y2 h0 h2 => by omega⟩, [], x6x, x6x, x4x, x4x, rfl⟩
  have k0 : 0 < k := by omega
  obtain ⟨y, hy⟩ := gE (a0i (l.take i)) (k - 1)
  refine dv 6 ?_
  refine r0r (b := 1) rfl rfl (by omega) (by omega) (dv 2 ?_)
  refine x0x rfl rfl rfl (b4f ..) (dc 1 (aS ?_ ?_))<;>intro hc7<;>try simp at hc7
  ·try have hlt := hc7
   refine dv 1 ?_
   exact ⟨k, ⟨k1, k2, fun y2 h0 h2 => by (rw [hy] at h2; cases h2; exact hlt)⟩, [], x6x, x6x, x4x, x4x, rfl⟩
  try have hlt := hc7
  refine dv 4 ?_
  refine r0r (b := 1) rfl rfl (by omega) (by omega) (dv 1 ?_)
  exact ⟨k - 1, ⟨⟨by omega, fun j y2 hj hy2 => by by_cases hjk : j = k - 1; (subst hjk; rw [hy] at hy2; cases hy2; exact hlt); exact k2 j y2 (by omega) hy2⟩, by omega⟩, [], x6x, x6x, x4x, x4x, rfl⟩
 ·try dsimp only [b1n, b1o]
  obtain ⟨c1, c2, c3⟩ := hi
  have hin := (d1k hx).trans (e8m f1m (d9k _) c2 c3 c1)
  refine dv 1 ?_
  refine x9x (id := 1) a0l rfl w6w rfl (dv 2 ?_)
  refine b9o rfl a0l rfl w6w rfl rfl rfl (by omega) (by omega) (by omega) ?_
  refine p2p (zs := ((a0i (l.take i)).take k).map r9r) rfl rfl a0l rfl w6w rfl rfl rfl (z9z (fun _ => rfl) _) (by simp) (by (simp only [a0f, r7r, s3s, s6s, a0v, b2n, T141]; omega)) ?_
  refine dv 4 ?_
  refine y5y (id := 3) a0l rfl w6w rfl rfl rfl rfl rfl rfl ?_
  refine y6y (zs := ((a0i (l.take i)).take k ++ [x]).map r9r) rfl rfl a0l rfl w6w rfl rfl rfl rfl (by rfl) (z8z _ _ _) (by (simp only [a0f, r7r, s3s, s6s, a0v, b2n, T141]; omega)) ?_
  refine dv 2 ?_
  refine b9o rfl a0l rfl w6w rfl rfl rfl (by omega) (by (rw [List.length_map]; omega)) (by (rw [List.length_map]; omega)) ?_
  refine a1i v7v (zs := ((a0i (l.take i)).take k ++ x :: (a0i (l.take i)).drop k).map r9r) rfl rfl a0l rfl w6w rfl rfl rfl (z9z (fun _ => rfl) _) (by simp) (by (simp only [a0f, r7r, s3s, s6s, a0v, b2n, T141]; omega)) (Le.ow_map _ (fun _ => rfl) (fun _ => rfl)) ?_
  refine dv 3 ?_
  refine x7x (b := 1) rfl rfl (by omega) (dv 1 ?_)
  exact ⟨i + 1, ⟨by omega, by omega⟩, [0, _, _, _, _, _], (Cov.cons' (t := 3) rfl (by rw [hin]; rfl) (x8x 4 rfl Cov.nil)), x6x, x4x, x4x, rfl⟩
end
section
theorem c3u (c : Bool) (l : La) : a0p Tryz.prog 31 [.agg (r2r c l)] (.agg (a1v (e6o l))) := by
 refine pX Tryz.f31 [.agg (a1v (e6o l))] 2 ?_
 refine dv 1 ?_
 refine y2y (id := 0) rfl rfl rfl (x2x (id := 1) a7j c8a rfl (dv 3 fun K K' => ?_))
 refine x0x rfl rfl rfl (a3o ..) (dc 1 (aI ?_ ?_))<;>intro hc2<;>try simp at hc2
 ·have fX : ¬ a6e l = true := by simpa using hc2
  refine dv 1 ?_
  refine rlB a7j c8a ?_
  refine dv 2 ?_
  (rw [f2h fX]; exact a8r rfl rfl rfl rfl)
 have fL : a6e l = true := hc2
 have hl1 := (a2q fL).1
 refine dc 7 (fun K K' => aI ?_ ?_)<;>intro hc4<;>try simp at hc4
 ·have h0 : l.done.length = 0 := by (rw [hc4]; rfl)
  refine dv 2 ?_
  refine y9y (out := .agg (a1v l.base)) rfl a7j rfl rfl ?_
  refine dv 2 ?_
  (rw [f2i fL h0]; exact a8r rfl rfl rfl rfl)
 have h1 : 0 < l.done.length := List.length_pos_iff.2 hc4
 obtain ⟨p, hp⟩ := gE l.done (l.done.length - 1)
 refine dv 7 ?_
 refine r0r (b := 1) rfl rfl (by omega) (by omega) (dv 2 ?_)
 refine v9v (out := .agg (a1v p.after)) rfl a7j rfl ?_
 refine dv 2 ?_
 (rw [f2j fL hp]; exact a8r rfl rfl rfl rfl)
theorem b1d (c : Bool) (l : La) (f t : Nat) (hlen : l.done.length ≤ 1000000) (hf : f ≤ 1000000) (ht : t ≤ 1000000) (hb : ∀ p ∈ l.done, p.sends.length ≤ 1000000 ∧ p.outs.length ≤ 1000000) : Meth Tryz.prog 110 1 [] [.agg (r2r c l), .pv (.int .i64 (f : Int)), .pv (.int .i64 (t : Int))] [(0, (0, .dead))] (.agg [pI l.proc, pI l.base.x, pI l.base.y, pI l.base.count, .ref 0 0]) [(0, (0, .row 58 12 (((a1p l f t).done).map (a1w true))))] := by
 refine mX Tryz.f110 [.agg [pI l.proc, pI l.base.x, pI l.base.y, pI l.base.count, .ref 0 0]] 1 10 fun γ => ?_
 refine dv 1 ?_
 refine y2y (id := 1) rfl rfl rfl (x2x (id := 2) a0u a9j rfl (dv 5 ?_))
 refine rlB a0u a9j ?_
 refine x2x (id := 3) a0u a9j rfl (dv 6 fun K K' => ?_)
 refine a1b 3 4 0 58 12 rfl rfl rfl rfl rfl ?_
 refine x5x (ι := Nat) (fun i γ1 => [(8, pI (i : Int))]) (fun i γ1 => [(0, ((γ1 0), .row 58 12 (((l.done.take i).drop f).map (a1w true)))), (3, ((0 + 1), .box 44 [pI l.proc, pI l.base.x, pI l.base.y, pI l.base.count, .ref 0 (γ1 0)])), (4, ((γ1 4), .dead)), (5, ((γ1 5), .dead)), (6, ((γ1 6), .dead)), (7, ((γ1 7), .dead)), (8, ((γ1 8), .dead)), (9, ((γ1 9), .dead)), (10, ((γ1 10), .dead))]) (fun i => f ≤ i ∧ (i = f ∨ (i ≤ t ∧ i ≤ l.done.length))) (fun i => l.done.length - i) (r3r [2, 3, 6, 7] rfl) (a1c [1, 2] rfl) f ⟨Nat.le_refl _, .inl rfl⟩ [_, 0, 0, 0, _, _, _, _, _, _, _] x6x (HE.row rfl (by rw [List.drop_of_length_le (by rw [List.length_take]; omega)]; rfl) (HE.box rfl rfl (HE.kill rfl (HE.kill rfl (HE.kill rfl (HE.kill rfl (HE.kill rfl (HE.kill rfl (HE.kill rfl HE.nil))))))))) rfl fun i γ1 hi => ?_
 obtain ⟨k1, k2⟩ := hi
 refine dc 6 (fun K K' => aS ?_ ?_)<;>intro j<;>try simp at j
 ·refine dv 6 ?_
  have hfin : (l.done.take i).drop f = (l.done.take t).drop f := c6m k1 k2 (by omega)
  refine dv 5 ?_
  exact ⟨[_], rfl, rfl, HE.row rfl (by rw [hfin]; rfl) HE.nil⟩
 refine dc 6 (aS ?_ ?_)<;>intro j<;>try simp at j
 ·have hfin : (l.done.take i).drop f = (l.done.take t).drop f := c6m k1 k2 (by omega)
  refine dv 5 ?_
  exact ⟨[_], rfl, rfl, HE.row rfl (by rw [hfin]; rfl) HE.nil⟩
 obtain ⟨p, hp⟩ := gE l.done i
 have g1 : i < t := by omega
 obtain ⟨hps, hpo⟩ := hb p (List.mem_of_getElem? hp)
 refine dv 9 fun K K' => ?_
 refine x2x (id := 4) a5g c3h rfl (dv 5 ?_)
 refine y9y (out := .agg (z2z p.ev)) rfl z3z rfl rfl ?_
 refine dv 1 ?_
 refine y9y (out := .agg (a1v p.after)) rfl a7j rfl rfl ?_
 refine x9x (id := 5) v2v rfl z3z rfl (dv 2 ?_)
 refine a1i v7v (zs := (p.sends).map z2z) rfl rfl v2v rfl z3z rfl rfl rfl (z9z (fun _ => rfl) _) rfl (by (simp only [a0f, r7r, s3s, s6s, a0v, a3d, b2n, T56]; omega)) (Le.ow_map _ (fun _ => rfl) (fun _ => rfl)) ?_
 refine x9x (id := 7) a0l rfl w6w rfl (dv 2 ?_)
 refine a1i v7v (zs := (p.outs).map r9r) rfl rfl a0l rfl w6w rfl rfl rfl (z9z (fun _ => rfl) _) rfl (by (simp only [a0f, r7r, s3s, s6s, a0v, a3d, b2n, T141]; omega)) (Le.ow_map _ (fun _ => rfl) (fun _ => rfl)) ?_
 refine rlB a5g c3h ?_
 refine y5y (id := 9) a9i rfl a5g rfl rfl rfl rfl rfl rfl ?_
 refine y6y (zs := ((l.done.take i).drop f ++ [p]).map (a1w true)) rfl rfl a9i rfl a5g rfl rfl rfl rfl (by rfl) (z8z _ _ _) (by (simp only [a0f, r7r, s3s, s6s, a0v, a3d, b2n, T58]; omega)) ?_
 refine dv 4 ?_
 refine x7x (b := 1) rfl rfl (by omega) (dv 1 ?_)
 exact ⟨i + 1, ⟨⟨by omega, .inr ⟨by omega, by omega⟩⟩, by omega⟩, [_, 0, 0, 0, _, _, _, _, _, _, _], x6x, x6x, (HE.row rfl (by rw [z7z hp, List.drop_append_of_le_length (by rw [List.length_take]; omega)]) (HE.box rfl rfl (HE.kill rfl (HE.kill rfl (HE.kill rfl (HE.kill rfl (HE.kill rfl (HE.kill rfl (HE.kill rfl HE.nil))))))))), x4x, rfl⟩
theorem c2n (a : Ap) (l : La) (s : List Ev) (hA : e0o a) (hL : a6e l = true) : MethE Tryz.prog 328 0 [.agg (b6v true a), .agg (r2r true l), a0g true s] [] (ι := La × Bool) (fun S' => S'.2 = true → ∃ p, S'.1 = a2g l p ∧ l.done.length < 100 ∧ paB p) (fun S' => []) (fun S' => .tup [.agg (r2r true S'.1), .pv (.bool (S'.2))]) (fun S' => []) := by
 refine mE (ι := La × Bool) Tryz.f328 (fun S' => [.agg (r2r true S'.1), .pv (.bool (S'.2))]) 0 10 fun γ => ?_
 have hb : ∀ r ∈ a.rules, r.ops.length ≤ 1048576 := fun r hr => by obtain ⟨i, hi⟩ := List.getElem?_of_mem hr; have := (hA.2 i r hi).2.1.2.1; omega
 have hlb := e8f hL
 refine dv 1 ?_
 refine y2y (id := 0) rfl rfl rfl (y2y (id := 1) rfl rfl rfl (x2x (id := 2) a0u a9j rfl (dv 4 ?_)))
 refine x0x rfl rfl rfl (b2u true true l s) (dv 3 ?_)
 refine x2x (id := 3) z3z a8c rfl (dc 7 (fun K K' => aS ?_ ?_))<;>intro hg2<;>try simp at hg2
 ·refine dv 11 fun K K' => ?_
  refine x0x rfl rfl rfl (a3o ..) (dc 1 (aI ?_ ?_))<;>intro hc8<;>try simp at hc8
  ·exact absurd hL (by simpa using hc8)
  refine dv 6 ?_
  refine x0x rfl rfl rfl (a4z true l hlb) (dv 2 ?_)
  skip
  refine dv 1 ?_
  exact ⟨(l, false), (by intro h; simp at h), [], rfl, rfl, x4x⟩
 have hok : (b1j l s).2 = true := hg2
 refine dv 1 ?_
 refine rlB a4u b3s ?_
 refine dv 0 ?_
 refine rlB a4u b3s ?_
 refine dv 0 ?_
 refine rlB a4u b3s ?_
 refine dv 0 ?_
 refine q5q (id := 4) c5l rfl a4u rfl rfl rfl rfl (.val rfl rfl (.val rfl rfl (.val rfl rfl (.val rfl rfl .nil)))) rfl (s2s rfl) (s2s rfl) (s2s rfl) rfl rfl ?_
 refine dv 0 ?_
 refine b7s rfl rfl rfl (.ref rfl (e1o a) .nil) (a8n false (f0i a) (by intro x hx; simp only [f0i, List.mem_cons, List.not_mem_nil, or_false] at hx; rcases hx with rfl | rfl | rfl | rfl <;> first | exact hb | (intro r hr; cases hr))) (.pv _) ?_
 refine dc 2 (aI ?_ ?_)<;>intro j<;>try simp at j
 ·refine dv 3 fun K K' => ?_
  refine x0x rfl rfl rfl (a3o ..) (dc 1 (aI ?_ ?_))<;>intro hc5<;>try simp at hc5
  ·exact absurd hL (by simpa using hc5)
  refine dv 6 ?_
  refine x0x rfl rfl rfl (a4z true l hlb) (dv 2 ?_)
  skip
  refine dv 1 ?_
  exact ⟨(l, false), (by intro h; simp at h), [], rfl, rfl, x4x⟩
 have hroom := e1n hok
 refine dv 1 ?_
 refine d1s 4 (b3x v7v 0 4 rfl rfl ?_)
 refine dv 2 ?_
 refine x0x rfl rfl rfl (c3u true l) (dv 1 ?_)
 refine b3x v7v 9 1 rfl rfl ?_
 refine x2x (id := 5) a7j c8a rfl (b5i c0m (by rfl) [] [] (c7k a (e6o l) (b1j l s).1 hb) rfl rfl rfl rfl (by decide) rfl rfl (by repeat (exact InH.nil)) (fun _ => (by (simp only [pI, a2d, a2f, b8w, gl, nx, a6q, Nat.beq]; rfl))) (fun _ => (by (simp only [pI, a2d, a2f, b8w, gl, nx, a6q, Nat.beq]; rfl))) ⟨⟨0, 0, 0⟩, [], []⟩ ⟨Nat.zero_le _, Nat.zero_le _, fun q h => by cases h⟩ fun r hr => ?_)
 obtain ⟨r1, r2, r3⟩ := hr
 refine b3y v7v 5 4 rfl rfl ?_
 refine dv 4 ?_
 refine b3y v7v 10 3 rfl rfl ?_
 refine dv 3 ?_
 refine c2d (by kernel_rfl) ?_
 refine dv 5 ?_
 refine rlM [9] [_] (b1d true l 0 l.done.length hlb.1 (by omega) hlb.1 hlb.2) rfl rfl rfl ?_
 refine x2x (id := 6) a0u a9j rfl (dv 1 ?_)
 rw [b5d]
 refine dv 6 ?_
 refine x0x rfl rfl rfl (a1d true r.sends (by omega)) ?_
 refine dv 1 ?_
 refine x0x rfl rfl rfl (a3z true r.outs (by omega)) ?_
 refine rlB a5g c3h ?_
 refine y5y (id := 7) a9i rfl a5g rfl rfl rfl rfl rfl rfl ?_
 refine y6y (zs := (l.done ++ [(⟨(b1j l s).1, r.s, u5u r.sends, a0i r.outs⟩ : Pa)]).map (a1w true)) rfl rfl a9i rfl a5g rfl rfl rfl rfl (by rfl) (z8z (a1w true) l.done (⟨(b1j l s).1, r.s, u5u r.sends, a0i r.outs⟩ : Pa)) (by (simp only [a0f, r7r, s3s, s6s, a0v, a3d, b2n, T58]; omega)) ?_
 refine dv 6 ?_
 refine v3v (b := b2i true (l.done ++ [(⟨(b1j l s).1, r.s, u5u r.sends, a0i r.outs⟩ : Pa)])) 2 4 rfl rfl rfl (.ref rfl (Le.ow_map _ (fun _ => rfl) (fun _ => rfl)) .nil) rfl rfl rfl rfl ?_
 refine dv 1 ?_
 exact ⟨(a2g l (⟨(b1j l s).1, r.s, u5u r.sends, a0i r.outs⟩ : Pa), true), (fun _ => ⟨(⟨(b1j l s).1, r.s, u5u r.sends, a0i r.outs⟩ : Pa), rfl, hroom, e9v r1 r2 r3⟩), [], rfl, rfl, x4x⟩
theorem c3v (n : Nd) (q : Int) (hl4 : n.lanes.length ≤ 1000000) : MethE Tryz.prog 327 0 [.agg (u0u true n), .pv (.int .i64 q)] [] (ι := Int) (fun S' => S' = -1 ∨ ∃ (i : Nat) (l : La), S' = (i : Int) ∧ n.lanes[i]? = some l ∧ l.proc = q) (fun S' => []) (fun S' => .pv (.int .i64 S')) (fun S' => []) := by
 refine mE (ι := Int) Tryz.f327 (fun S' => [.pv (.int .i64 S')]) 0 1 fun γ => ?_
 refine dv 1 ?_
 refine y2y (id := 0) rfl rfl rfl (dv 5 fun K K' => ?_)
 refine x5x (ι := Nat) (fun i γ1 => [(5, pI (i : Int))]) (fun i γ1 => []) (fun i => i ≤ n.lanes.length) (fun i => n.lanes.length - i) (r3r [1, 2] rfl) (w9w 0 rfl HE.nil) 0 (by omega) [] x6x x4x rfl fun i γ1 hi => ?_
 refine dc 7 (fun K K' => aS ?_ ?_)<;>intro j<;>try simp at j
 ·refine dv 4 ?_
  exact ⟨-1, .inl rfl, [], rfl, rfl, x4x⟩
 obtain ⟨l, hl⟩ := gE n.lanes i
 refine dc 12 (fun K K' => aI ?_ ?_)<;>intro hc5<;>try simp at hc5
 ·have hq : l.proc = q := hc5
  refine dv 4 ?_
  exact ⟨(i : Int), .inr ⟨i, l, rfl, hl, hq⟩, [], rfl, rfl, x4x⟩
 refine dv 3 ?_
 refine x7x (b := 1) rfl rfl (by omega) (dv 1 ?_)
 exact ⟨i + 1, ⟨by omega, by omega⟩, [], x6x, x6x, x4x, x4x, rfl⟩
end
section
theorem c3w (c c' : Bool) (l l' : List Ev) : a0p Tryz.prog 251 [a0g c l, a0g c' l'] (.pv (.bool (decide (l = l')))) := by
 refine pX Tryz.f251 [.pv (.bool (decide (l = l')))] 0 ?_
 refine w1w 0 rfl fun hlen => ?_
 refine dc 9 (fun K K' => aI ?_ ?_)<;>intro o<;>try simp at o
 ·refine dv 3 ?_
  refine x3x rfl ?_ rfl
  exact f4l (by omega)
 refine dv 5 fun K K' => ?_
 refine x5x (ι := Nat) (fun i γ1 => [(5, pI (i : Int))]) (fun i γ1 => []) (fun i => i ≤ l.length ∧ l.length = l'.length ∧ l.take i = l'.take i) (fun i => l.length - i) (r3r [0, 1] rfl) HE.nil 0 ⟨by omega, by omega, rfl⟩ [] x6x x4x rfl fun i γ1 hi => ?_
 obtain ⟨h1, h2, h3⟩ := hi
 refine dc 6 (fun K K' => aS ?_ ?_)<;>intro o<;>try simp at o
 ·refine dv 4 ?_
  refine x3x rfl ?_ rfl
  exact eqT h3 (by omega) (by omega)
 refine dv 6 fun K K' => ?_
 obtain ⟨x, hx⟩ := gE l i
 refine dv 4 ?_
 obtain ⟨y, hy⟩ := gE l' i
 refine dv 2 ?_
 refine c3i rfl rfl (by intro p q h; cases h) (.inr rfl) (f0e _ _ _ _) ?_
 refine dc 0 (aS ?_ ?_)<;>intro hc7<;>try simp at hc7
 ·have hxy : x = y := by simpa [a7i] using hc7
  refine dv 3 ?_
  refine s8s (.int .i64 ((i + 1 : Nat) : Int)) rfl rfl rfl (a9n rfl (by omega) (by omega) (by have := hlen; omega)) ?_
  refine dv 1 ?_
  exact ⟨i + 1, ⟨⟨by omega, h2, c9n h3 hx hy (by assumption)⟩, by omega⟩, [], x6x, x6x, x4x, x4x, rfl⟩
 have hxy : ¬ x = y := by simpa [a7i] using hc7
 refine dv 3 ?_
 refine x3x rfl ?_ rfl
 exact f4m hx hy (by assumption)
theorem b1e (c : Bool) (a b : List Ev) (g : Int) : a0p Tryz.prog 169 [a0g c a, a0g c b, .pv (.int .i64 g)] (.pv (.int .i64 (chg g a (chg g b 41 a) b))) := by
 refine pX Tryz.f169 [.pv (.int .i64 (chg g a (chg g b 41 a) b))] 0 ?_
 refine dv 8 fun K K' => ?_
 refine x5x (ι := Nat) (fun k γ1 => [(0, a0g c (swK a b k)), (1, a0g c (swK b a k)), (7, pI (e6f g a b k)), (8, pI (k : Int))]) (fun k γ1 => []) (fun k => k ≤ 2) (fun k => 2 - k) (x8x 2 rfl Cov.nil) HE.nil 0 (by omega) [] (Cov.cons' (t := 0) rfl (rfl) (Cov.cons' (t := 1) rfl (rfl) (Cov.cons' (t := 7) rfl (rfl) (x8x 8 rfl Cov.nil)))) x4x rfl fun k γ1 hi => ?_
 refine dc 4 (fun K K' => aS ?_ ?_)<;>intro o<;>try simp at o
 ·obtain rfl : k = 2 := by omega
  refine dv 5 ?_
  exact x3x rfl rfl rfl
 refine dv 7 fun K K' K K' => ?_
 refine w1w 0 rfl fun hlen0 => ?_
 refine x5x (ι := Nat) (fun i γ2 => [(7, pI (chg g (swK b a k) (e6f g a b k) ((swK a b k).take i))), (9, pI (i : Int))]) (fun i γ2 => []) (fun i => i ≤ (swK a b k).length) (fun i => (swK a b k).length - i) (r3r [0, 1, 2, 8] rfl) HE.nil 0 (by omega) [] (Cov.cons' (t := 7) rfl (by rw [List.take_zero]; rfl) (x8x 9 rfl Cov.nil)) x4x rfl fun i γ2 hi => ?_
 refine dc 6 (fun K K' => aS ?_ ?_)<;>intro o<;>try simp at o
 ·obtain rfl : i = (swK a b k).length := by omega
  refine dv 12 ?_
  refine x7x (b := 1) rfl rfl (by omega) (dv 1 ?_)
  exact ⟨k + 1, ⟨by omega, by omega⟩, [], (Cov.cons' (t := 0) rfl (by rw [d3u (by omega)]) (Cov.cons' (t := 1) rfl (by rw [d3u (by omega)]) (Cov.cons' (t := 7) rfl (by rw [d9v (by omega), List.take_length]) (x8x 8 rfl Cov.nil)))), x6x, x4x, x4x, rfl⟩
 obtain ⟨x, hx⟩ := gE (swK a b k) i
 refine dv 9 fun K K' K K' => ?_
 refine w1w 1 rfl fun hlen1 => ?_
 refine x5x (ι := Nat) (fun j γ3 => [(10, .pv (.bool (decide (x ∈ (swK b a k).take j)))), (11, pI (j : Int))]) (fun j γ3 => []) (fun j => j ≤ (swK b a k).length) (fun j => (swK b a k).length - j) (r3r [0, 1, 2, 7, 8, 9] rfl) HE.nil 0 (by omega) [] (Cov.cons' (t := 10) rfl (by simp) (x8x 11 rfl Cov.nil)) x4x rfl fun j γ3 hi => ?_
 refine dc 6 (fun K K' => aI ?_ ?_)<;>intro o<;>try simp at o
 ·obtain ⟨z, hz⟩ := gE (swK b a k) j
  refine dc 6 (fun K K' => aS ?_ ?_)<;>intro hg13<;>try simp at hg13
  ·have hin : x ∈ (swK b a k).take j := by simpa using hg13
   refine dv 12 ?_
   refine x7x (b := 1) rfl rfl (by omega) (dv 1 ?_)
   exact ⟨j + 1, ⟨by omega, by omega⟩, [], (Cov.cons' (t := 10) rfl (by rw [z7z hz]; (simp [hin]; done)) (x8x 11 rfl Cov.nil)), x6x, x4x, x4x, rfl⟩
  have hin : ¬ x ∈ (swK b a k).take j := by simpa using hg13
  refine dv 8 ?_
  refine c3i rfl rfl (by intro a c h; cases h) (.inl rfl) (f0e _ _ _ _) ?_
  refine dv 4 ?_
  refine x7x (b := 1) rfl rfl (by omega) (dv 1 ?_)
  exact ⟨j + 1, ⟨by omega, by omega⟩, [], (Cov.cons' (t := 10) rfl (by rw [z7z hz]; (simp [hin]; rfl)) (x8x 11 rfl Cov.nil)), x6x, x4x, x4x, rfl⟩
 obtain rfl : j = (swK b a k).length := by omega
 rw [List.take_length]
 refine dc 5 (aS ?_ ?_)<;>intro hg14<;>try simp at hg14
 ·have hn : ¬ (g ≤ x.time ∧ x.time < chg g (swK b a k) (e6f g a b k) ((swK a b k).take i) ∧ ¬ x ∈ swK b a k) := fun q => q.2.2 (by simpa using hg14)
  refine dv 20 ?_
  refine x7x (b := 1) rfl rfl (by omega) (dv 1 ?_)
  exact ⟨i + 1, ⟨by omega, by omega⟩, [], (Cov.cons' (t := 7) rfl (by rw [b6t hx, if_neg hn]) (x8x 9 rfl Cov.nil)), x6x, x4x, x4x, rfl⟩
 have hm : ¬ x ∈ swK b a k := by simpa using hg14
 refine dc 9 (aS ?_ ?_)<;>intro o<;>try simp at o
 ·have hn : ¬ (g ≤ x.time ∧ x.time < chg g (swK b a k) (e6f g a b k) ((swK a b k).take i) ∧ ¬ x ∈ swK b a k) := fun q => (by have := q.1; omega)
  refine dv 11 ?_
  refine x7x (b := 1) rfl rfl (by omega) (dv 1 ?_)
  exact ⟨i + 1, ⟨by omega, by omega⟩, [], (Cov.cons' (t := 7) rfl (by rw [b6t hx, if_neg hn]) (x8x 9 rfl Cov.nil)), x6x, x4x, x4x, rfl⟩
 refine dc 8 (aS ?_ ?_)<;>intro o<;>try simp at o
 ·have hn : ¬ (g ≤ x.time ∧ x.time < chg g (swK b a k) (e6f g a b k) ((swK a b k).take i) ∧ ¬ x ∈ swK b a k) := by exact fun q => (by have := q.2.1; omega)
  refine dv 3 ?_
  refine x7x (b := 1) rfl rfl (by omega) (dv 1 ?_)
  exact ⟨i + 1, ⟨by omega, by omega⟩, [], (Cov.cons' (t := 7) rfl (by rw [b6t hx, if_neg hn]) (x8x 9 rfl Cov.nil)), x6x, x4x, x4x, rfl⟩
 have hy : g ≤ x.time ∧ x.time < chg g (swK b a k) (e6f g a b k) ((swK a b k).take i) ∧ ¬ x ∈ swK b a k := ⟨by omega, by omega, hm⟩
 refine dv 9 ?_
 refine x7x (b := 1) rfl rfl (by omega) (dv 1 ?_)
 exact ⟨i + 1, ⟨by omega, by omega⟩, [], (Cov.cons' (t := 7) rfl (by (rw [b6t hx, if_pos hy] <;> rfl)) (x8x 9 rfl Cov.nil)), x6x, x4x, x4x, rfl⟩
theorem b2v (n : Nd) (hw : wk n) : Meth Tryz.prog 171 3 [0, 1, 2] [.agg [pI n.id, .pv (.bool n.up), pI n.inc, pI n.g, .ref 0 0, a0g true n.kept, s0s true n.outs, pI n.led, pI n.version, .ref 1 0, .ref 2 0, pI n.round, pI n.low]] [(0, (0, .row 44 5 ((n.lanes).map (r2r true)))), (1, (0, .row 190 3 ((n.views).map (a3x true)))), (2, (0, .row 3 1 (n.known.map a6f)))] (.agg [pI (nl n (q8q n n.lanes)).id, .pv (.bool (nl n (q8q n n.lanes)).up), pI (nl n (q8q n n.lanes)).inc, pI (nl n (q8q n n.lanes)).g, .ref 0 0, a0g true (nl n (q8q n n.lanes)).kept, s0s true (nl n (q8q n n.lanes)).outs, pI (nl n (q8q n n.lanes)).led, pI (nl n (q8q n n.lanes)).version, .ref 1 0, .ref 2 0, pI (nl n (q8q n n.lanes)).round, pI (nl n (q8q n n.lanes)).low]) [(0, (0, .row 44 5 ((q8q n n.lanes).map (r2r true))))] := by
 refine mX Tryz.f171 [.agg [pI (nl n (q8q n n.lanes)).id, .pv (.bool (nl n (q8q n n.lanes)).up), pI (nl n (q8q n n.lanes)).inc, pI (nl n (q8q n n.lanes)).g, .ref 0 0, a0g true (nl n (q8q n n.lanes)).kept, s0s true (nl n (q8q n n.lanes)).outs, pI (nl n (q8q n n.lanes)).led, pI (nl n (q8q n n.lanes)).version, .ref 1 0, .ref 2 0, pI (nl n (q8q n n.lanes)).round, pI (nl n (q8q n n.lanes)).low]] 3 2 fun γ => ?_
 refine dv 1 ?_
 refine y2y (id := 3) rfl rfl rfl (x2x (id := 4) u1u q2q rfl (dv 4 fun K K' => ?_))
 refine x5x (ι := List La × Bool) (fun p γ1 => [(3, .pv (.bool (p.2)))]) (fun p γ1 => [(0, ((γ 0), .row 44 5 ((p.1).map (r2r true))))]) (fun p => (p.2 = true → q8q n p.1 = q8q n n.lanes) ∧ (p.2 = false → p.1 = q8q n n.lanes) ∧ wk (nl n p.1)) (fun p => 2 * c6r p.1 + p.2.toNat) (r3r [1, 2] rfl) (a1c [1, 2, 3, 4] rfl) (n.lanes, true) ⟨fun _ => rfl, fun h => (by cases h), hw⟩ [] x6x x4x rfl fun p γ1 hi => ?_
 obtain ⟨ls, q⟩ := p
 obtain ⟨h1, h2, h3⟩ := hi
 dsimp only at h1 h2 h3 ⊢
 refine dc 3 (fun K K' => aS ?_ ?_)<;>intro hc3<;>try simp at hc3
 ·have hq : q = false := by simpa using hc3
  subst hq
  have hfin : ls = q8q n n.lanes := h2 rfl
  refine dv 4 ?_
  subst hfin
  refine dv 1 ?_
  exact ⟨[γ 0, γ 1, γ 2], rfl, rfl, x4x⟩
 have hq : q = true := hc3
 subst hq
 refine dv 7 ?_
 refine x5x (ι := Nat) (fun i γ2 => [(3, .pv (.bool (b0n n ls i))), (4, pI (i : Int))]) (fun i γ2 => [(0, ((γ 0), .row 44 5 ((a2m n ls i).map (r2r true))))]) (fun i => i ≤ ls.length) (fun i => ls.length - i) (r3r [1, 2] rfl) (a1c [1, 2, 3, 4] rfl) 0 (by omega) [] (Cov.cons' (t := 3) rfl (rfl) (x8x 4 rfl Cov.nil)) x4x rfl fun i γ2 hi => ?_
 refine dc 7 (fun K K' => aS ?_ ?_)<;>intro o<;>try simp at o
 ·have hpl : (a2m n ls i).length = ls.length := c6s n ls i
  obtain rfl : i = ls.length := by omega
  refine dv 1 ?_
  exact ⟨(a2m n ls ls.length, b0n n ls ls.length), ⟨⟨fun h => (c6t h).trans (h1 rfl), fun h => (b9r h).trans (h1 rfl), c1x h3 _⟩, (e8q n ls ls.length)⟩, [], x6x, x6x, x4x, x4x, rfl⟩
 have hpl : (a2m n ls i).length = ls.length := c6s n ls i
 obtain ⟨l, hp⟩ := gE (a2m n ls i) i
 have h4 := c1x h3 i
 have h41 : (a2m n ls i).length ≤ 4 := h4.1
 have hb4 := h4.2.2.2.2.1 l (List.mem_of_getElem? hp)
 refine dv 7 fun K K' => ?_
 refine z0z (j := i) rfl rfl a8q rfl a0u rfl rfl (z1z hp) ?_
 refine dv 5 ?_
 refine z0z (j := i) rfl rfl a8q rfl a0u rfl rfl (z1z hp) ?_
 refine dv 2 ?_
 refine b7s rfl rfl rfl (d1q (n := nl n (a2m n ls i)) rfl rfl rfl (.cl rfl .nil)) (a3y false (nl n (a2m n ls i)) l.proc (e8n h4) (by have := h4.1; omega) h4.2.2.1) (a9u _) ?_
 refine x0x rfl rfl rfl (a8w true true l (a1g (nl n (a2m n ls i)) l.proc)) ?_
 refine dv 6 ?_
 refine z0z (j := i) rfl rfl a8q rfl a0u rfl rfl (z1z hp) ?_
 refine dc 4 (aS ?_ ?_)<;>intro o<;>try simp at o
 ·have hk := d9q (n := n) hp (by show ¬ same l.done (a1g (nl n (a2m n ls i)) l.proc) < l.done.length; omega)
  refine dv 3 ?_
  refine u6u rfl rfl rfl (dv 1 ?_)
  exact ⟨i + 1, ⟨by omega, by omega⟩, [], (Cov.cons' (t := 3) rfl (by rw [c4w, hk.2, Bool.or_false]) (Cov.cons' (t := 4) rfl (by rw [y1y (by omega) (by omega)]; rfl) Cov.nil)), x6x, (HE.row rfl (by rw [c9m, hk.1]) HE.nil), x4x, rfl⟩
 have hk := d9p (n := n) hp (by show same l.done (a1g (nl n (a2m n ls i)) l.proc) < l.done.length; omega)
 refine dv 7 ?_
 refine z0z (j := i) rfl rfl a8q rfl a0u rfl rfl (z1z hp) ?_
 refine dv 2 ?_
 refine x0x rfl rfl rfl (a2r true l 0 (keep n (a2m n ls i) l) (by omega) (by omega) (by have := e8o n (a2m n ls i) l; omega) (fun p hp => by have := hb4.2 p hp; omega)) ?_
 refine z0z (j := i) rfl rfl a8q rfl a0u rfl rfl (z1z hp) ?_
 refine v4v (el' := a1p l 0 (keep n (a2m n ls i) l)) rfl rfl a0u rfl rfl rfl hp rfl (q4q rfl) rfl rfl ?_
 refine dv 4 ?_
 refine u6u rfl rfl rfl (dv 1 ?_)
 exact ⟨i + 1, ⟨by omega, by omega⟩, [], (Cov.cons' (t := 3) rfl (by rw [c4w, hk.2, Bool.or_true]) (Cov.cons' (t := 4) rfl (by rw [y1y (by omega) (by omega)]; rfl) Cov.nil)), x6x, (HE.row rfl (by rw [c9m, hk.1]) HE.nil), x4x, rfl⟩
theorem b1f (c : Bool) (n m : Nd) (hn : wk n) (hm : wk m) (hid : n.id = m.id) (hv : 0 ≤ n.version ∧ n.version ≤ 9998) : Meth Tryz.prog 170 3 [0, 1, 2] [.agg (u0u c n), .agg [pI m.id, .pv (.bool m.up), pI m.inc, pI m.g, .ref 0 0, a0g true m.kept, s0s true m.outs, pI m.led, pI m.version, .ref 1 0, .ref 2 0, pI m.round, pI m.low]] [(0, (0, .row 44 5 ((m.lanes).map (r2r true)))), (1, (0, .row 190 3 ((m.views).map (a3x true)))), (2, (0, .row 3 1 (m.known.map a6f)))] (.agg [pI ({ m with version := a5d n m 3 } : Nd).id, .pv (.bool ({ m with version := a5d n m 3 } : Nd).up), pI ({ m with version := a5d n m 3 } : Nd).inc, pI ({ m with version := a5d n m 3 } : Nd).g, .ref 0 0, a0g true ({ m with version := a5d n m 3 } : Nd).kept, s0s true ({ m with version := a5d n m 3 } : Nd).outs, pI ({ m with version := a5d n m 3 } : Nd).led, pI ({ m with version := a5d n m 3 } : Nd).version, .ref 1 0, .ref 2 0, pI ({ m with version := a5d n m 3 } : Nd).round, pI ({ m with version := a5d n m 3 } : Nd).low]) [] := by
 refine mX Tryz.f170 [.agg [pI ({ m with version := a5d n m 3 } : Nd).id, .pv (.bool ({ m with version := a5d n m 3 } : Nd).up), pI ({ m with version := a5d n m 3 } : Nd).inc, pI ({ m with version := a5d n m 3 } : Nd).g, .ref 0 0, a0g true ({ m with version := a5d n m 3 } : Nd).kept, s0s true ({ m with version := a5d n m 3 } : Nd).outs, pI ({ m with version := a5d n m 3 } : Nd).led, pI ({ m with version := a5d n m 3 } : Nd).version, .ref 1 0, .ref 2 0, pI ({ m with version := a5d n m 3 } : Nd).round, pI ({ m with version := a5d n m 3 } : Nd).low]] 3 3 fun γ => ?_
 refine dv 1 ?_
 refine y2y (id := 3) rfl rfl rfl (y2y (id := 4) rfl rfl rfl (x2x (id := 5) u1u q2q rfl (dv 4 fun K K' => ?_)))
 refine x5x (ι := Nat) (fun k γ1 => [(5, pI (k : Int))]) (fun k γ1 => [(4, ((0 + 1), .box 65 [pI m.id, .pv (.bool m.up), pI m.inc, pI m.g, .ref 0 (γ 0), a0g true m.kept, s0s true m.outs, pI m.led, pI (a5d n m k), .ref 1 (γ 1), .ref 2 (γ 2), pI m.round, pI m.low]))]) (fun k => k ≤ 3) (fun k => 3 - k) (r3r [2, 3, 4] rfl) (a1c [0, 1, 2, 3, 5] rfl) 0 (by omega) [] x6x (HE.box rfl (by rfl) HE.nil) rfl fun k γ1 hi => ?_
 refine dc 4 (fun K K' => aS ?_ ?_)<;>intro o<;>try simp at o
 ·obtain rfl : k = 3 := by omega
  refine dv 5 ?_
  exact ⟨[γ 0, γ 1, γ 2], rfl, rfl, x4x⟩
 refine dc 9 (fun K K' => aS ?_ ?_)<;>intro hg5<;>try simp at hg5
 ·have hs : (k : Int) = m.id ∨ a1q n (k : Int) = a1q m (k : Int) := .inl hg5
  refine dv 12 ?_
  refine u6u rfl rfl rfl (dv 1 ?_)
  exact ⟨k + 1, ⟨by omega, by omega⟩, [], (Cov.cons' (t := 5) rfl (by rw [y1y (by omega) (by omega)]; rfl) Cov.nil), x6x, (HE.box rfl (by rw [d9t hid hs]) HE.nil), x4x, rfl⟩
 have hi0 : ¬ (k : Int) = m.id := hg5
 refine dv 2 ?_
 refine x0x rfl rfl rfl (a3j c n k (by omega) hn.2.2.2.1 (by have := d1o hn; omega) (by have := hn.1; omega)) ?_
 refine dv 2 ?_
 refine b7s rfl rfl rfl (d1q (n := ({ m with version := a5d n m k } : Nd)) rfl rfl rfl (.cl rfl .nil)) (a3j false ({ m with version := a5d n m k } : Nd) k (by omega) hm.2.2.2.1 (by have := d1o hm; show (a0b m).length ≤ 5000000; omega) (by have := hm.1; show m.lanes.length ≤ 1048576; omega)) (a9u _) ?_
 refine dv 0 ?_
 refine x0x rfl rfl rfl (c3w true true (a1q n (k : Int)) (a1q m (k : Int))) ?_
 refine dc 2 (aS ?_ ?_)<;>intro hc6<;>try simp at hc6
 ·have hs : (k : Int) = m.id ∨ a1q n (k : Int) = a1q m (k : Int) := .inr hc6
  refine dv 3 ?_
  refine u6u rfl rfl rfl (dv 1 ?_)
  exact ⟨k + 1, ⟨by omega, by omega⟩, [], (Cov.cons' (t := 5) rfl (by rw [y1y (by omega) (by omega)]; rfl) Cov.nil), x6x, (HE.box rfl (by rw [d9t hid hs]) HE.nil), x4x, rfl⟩
 have hd : ¬ a1q n (k : Int) = a1q m (k : Int) := hc6
 refine dv 3 ?_
 refine s8s (.int .i64 (n.version + 1)) rfl rfl rfl (a9n rfl rfl (by omega) (by omega)) ?_
 refine dv 4 ?_
 refine u6u rfl rfl rfl (dv 1 ?_)
 exact ⟨k + 1, ⟨by omega, by omega⟩, [], (Cov.cons' (t := 5) rfl (by rw [y1y (by omega) (by omega)]; rfl) Cov.nil), x6x, (HE.box rfl (by (rw [e8s hid hi0 hd] <;> rfl)) HE.nil), x4x, rfl⟩
end
section
theorem c2o (apps : List Ap) (n : Nd) (q : Int) (hn : ndI n) (hA : a5z apps) : MethE Tryz.prog 321 0 [a4o true apps, .agg (u0u true n), .pv (.int .i64 q)] [] (ι := Nd × Bool) (fun S' => ndI S'.1) (fun S' => []) (fun S' => .tup [.agg (u0u true S'.1), .pv (.bool (S'.2))]) (fun S' => []) := by
 refine mE (ι := Nd × Bool) Tryz.f321 (fun S' => [.agg (u0u true S'.1), .pv (.bool (S'.2))]) 0 10 fun γ => ?_
 have fK := hn.1
 have fS := fK.1
 have fB := v6v fS
 have fb := b8c fS
 have hb : ∀ a ∈ apps, ∀ r ∈ a.rules, r.ops.length ≤ 1048576 := fun a ha r hr => by obtain ⟨i, hi⟩ := List.getElem?_of_mem hr; have := ((hA.2 a ha).2 i r hi).2.1.2.1; omega
 refine dv 1 ?_
 refine y2y (id := 0) rfl rfl rfl (x2x (id := 1) u1u q2q rfl (dv 4 fun K K' => ?_))
 refine x0x rfl rfl rfl (w3w true n) (dc 1 (aI ?_ ?_))<;>intro hc2<;>try simp at hc2
 ·exact absurd fK (a0x (by simpa using hc2))
 refine dv 1 ?_
 refine r8r fun B X0 w0 => ?_
 refine txR 2 rfl rfl (dv 2 ?_)
 refine txM [] [] (c3v n q (by omega)) rfl rfl rfl rfl fun j hj => ?_
 refine txR 1 rfl rfl (dv 1 ?_)
 refine z4z rfl (dc 6 (fun K K' => aS ?_ ?_))<;>intro o<;>try simp at o
 ·refine dv 16 ?_
  refine rlM [7, 8, 9] [_, _, _] (y0y true n fb) rfl rfl rfl ?_
  refine dv 2 ?_
  (refine v3v (b := b8y true n.lanes) 1 4 rfl rfl rfl (.ref rfl (Le.ow_map _ (fun _ => rfl) (fun _ => rfl)) .nil) rfl rfl rfl rfl ?_; refine v3v (b := c3a true n.views) 1 9 rfl rfl rfl (.ref rfl (Le.ow_map _ (fun _ => rfl) (fun _ => rfl)) .nil) rfl rfl rfl rfl ?_; refine v3v (b := a5k true n.known) 1 10 rfl rfl rfl (.ref rfl (Le.ow_map _ (fun _ => rfl) (fun _ => rfl)) .nil) rfl rfl rfl rfl ?_)
  refine dv 1 ?_
  exact ⟨(n, false), hn, [], rfl, rfl, x4x⟩
 refine dv 1 ?_
 refine x0x rfl rfl rfl (a8n true apps hb) (dc 3 (aS ?_ ?_))<;>intro o<;>try simp at o
 ·refine dv 11 ?_
  refine rlM [7, 8, 9] [_, _, _] (y0y true n fb) rfl rfl rfl ?_
  refine dv 2 ?_
  (refine v3v (b := b8y true n.lanes) 1 4 rfl rfl rfl (.ref rfl (Le.ow_map _ (fun _ => rfl) (fun _ => rfl)) .nil) rfl rfl rfl rfl ?_; refine v3v (b := c3a true n.views) 1 9 rfl rfl rfl (.ref rfl (Le.ow_map _ (fun _ => rfl) (fun _ => rfl)) .nil) rfl rfl rfl rfl ?_; refine v3v (b := a5k true n.known) 1 10 rfl rfl rfl (.ref rfl (Le.ow_map _ (fun _ => rfl) (fun _ => rfl)) .nil) rfl rfl rfl rfl ?_)
  refine dv 1 ?_
  exact ⟨(n, false), hn, [], rfl, rfl, x4x⟩
 refine dc 4 (aS ?_ ?_)<;>intro o<;>try simp at o
 ·refine dv 7 ?_
  refine rlM [7, 8, 9] [_, _, _] (y0y true n fb) rfl rfl rfl ?_
  refine dv 2 ?_
  (refine v3v (b := b8y true n.lanes) 1 4 rfl rfl rfl (.ref rfl (Le.ow_map _ (fun _ => rfl) (fun _ => rfl)) .nil) rfl rfl rfl rfl ?_; refine v3v (b := c3a true n.views) 1 9 rfl rfl rfl (.ref rfl (Le.ow_map _ (fun _ => rfl) (fun _ => rfl)) .nil) rfl rfl rfl rfl ?_; refine v3v (b := a5k true n.known) 1 10 rfl rfl rfl (.ref rfl (Le.ow_map _ (fun _ => rfl) (fun _ => rfl)) .nil) rfl rfl rfl rfl ?_)
  refine dv 1 ?_
  exact ⟨(n, false), hn, [], rfl, rfl, x4x⟩
 refine dv 2 ?_
 refine x0x rfl rfl rfl (z6z ..) (dc 2 (aI ?_ ?_))<;>intro o<;>try simp at o
 ·refine dv 2 ?_
  refine rlM [7, 8, 9] [_, _, _] (y0y true n fb) rfl rfl rfl ?_
  refine dv 2 ?_
  (refine v3v (b := b8y true n.lanes) 1 4 rfl rfl rfl (.ref rfl (Le.ow_map _ (fun _ => rfl) (fun _ => rfl)) .nil) rfl rfl rfl rfl ?_; refine v3v (b := c3a true n.views) 1 9 rfl rfl rfl (.ref rfl (Le.ow_map _ (fun _ => rfl) (fun _ => rfl)) .nil) rfl rfl rfl rfl ?_; refine v3v (b := a5k true n.known) 1 10 rfl rfl rfl (.ref rfl (Le.ow_map _ (fun _ => rfl) (fun _ => rfl)) .nil) rfl rfl rfl rfl ?_)
  refine dv 1 ?_
  exact ⟨(n, false), hn, [], rfl, rfl, x4x⟩
 have hv9 : n.version < 9999 := by omega
 obtain ⟨i, l, hji, hl, hlp⟩ := hj.resolve_left (by omega)
 subst hji
 have hln := c1o fK hl
 have hp3 := (c9u hln.2.1).1
 obtain ⟨qn, rfl⟩ : ∃ qn : Nat, q = (qn : Int) := ⟨q.toNat, by omega⟩
 have hA4 := hA.1
 obtain ⟨a, ha⟩ := gE apps qn
 have hap := hA.2 a (List.mem_of_getElem? ha)
 have hv0 := fS.1.2.2.2.2.1.1
 refine dv 1 ?_
 refine d1s 12 (b3x v7v 0 12 rfl rfl ?_)
 refine dv 3 ?_
 refine v9v (out := .agg (b6v true a)) rfl a4u rfl ?_
 refine dv 4 ?_
 refine v9v (out := .agg (r2r true l)) rfl a0u rfl ?_
 refine dv 2 ?_
 refine x0x rfl rfl rfl (a3y true n (qn : Int) (a5j fS) (by omega) fS.2.2.2.2.2.1) ?_
 refine b3x v7v 16 1 rfl rfl ?_
 refine x2x (id := 2) a0u a9j rfl (b5i c0m (by rfl) [] [] (c2n a l (a1g n (qn : Int)) hap hln.2.1) rfl rfl rfl rfl (by decide) rfl rfl (by repeat (exact InH.nil)) (fun _ => (by (simp only [pI, a2d, a2f, b8w, gl, nx, a6q, Nat.beq]; rfl))) (fun _ => (by (simp only [pI, a2d, a2f, b8w, gl, nx, a6q, Nat.beq]; rfl))) (l, false) (by intro h; simp at h) fun r hr => ?_)
 refine b3y v7v 13 3 rfl rfl ?_
 refine dv 3 ?_
 refine b3y v7v 17 2 rfl rfl ?_
 refine dv 2 ?_
 refine c2d (by kernel_rfl) ?_
 refine dc 4 (fun K K' => aI ?_ ?_)<;>intro hc9<;>try simp at hc9
 ·refine dv 2 ?_
  refine rlM [7, 8, 9] [_, _, _] (y0y true n fb) rfl rfl rfl ?_
  refine dv 2 ?_
  (refine v3v (b := b8y true n.lanes) 1 4 rfl rfl rfl (.ref rfl (Le.ow_map _ (fun _ => rfl) (fun _ => rfl)) .nil) rfl rfl rfl rfl ?_; refine v3v (b := c3a true n.views) 1 9 rfl rfl rfl (.ref rfl (Le.ow_map _ (fun _ => rfl) (fun _ => rfl)) .nil) rfl rfl rfl rfl ?_; refine v3v (b := a5k true n.known) 1 10 rfl rfl rfl (.ref rfl (Le.ow_map _ (fun _ => rfl) (fun _ => rfl)) .nil) rfl rfl rfl rfl ?_)
  refine dv 1 ?_
  exact ⟨(n, false), hn, [], rfl, rfl, x4x⟩
 obtain ⟨p, hp1, hroom, hpb⟩ := hr hc9
 rw [hp1]
 have hwM := e4v (e3y fS) hl hroom hpb
 have hoM := e1m hn.2 hl hpb
 have hwA : wk (nl (nl n (n.lanes.set i (a2g l p))) (q8q (nl n (n.lanes.set i (a2g l p))) (nl n (n.lanes.set i (a2g l p))).lanes)) := c6u _ (Nat.le_refl _) hwM
 refine dv 3 ?_
 refine rlM [4, 5, 6] [_, _, _] (y0y true n fb) rfl rfl rfl ?_
 refine x2x (id := 3) u1u q2q rfl (dv 6 ?_)
 refine z0z (j := i) rfl rfl a8q rfl a0u rfl rfl (z1z hl) ?_
 refine v4v (el' := a2g l p) rfl rfl a0u rfl rfl rfl hl rfl (q4q rfl) rfl rfl ?_
 refine dv 3 ?_
 refine rlM [4, 5, 6] [_, _, _] (b2v (nl n (n.lanes.set i (a2g l p))) hwM) rfl rfl rfl ?_
 refine rlM [4, 5, 6] [_, _, _] (b1f true n (nl (nl n (n.lanes.set i (a2g l p))) (q8q (nl n (n.lanes.set i (a2g l p))) (nl n (n.lanes.set i (a2g l p))).lanes)) (e3y fS) hwA rfl ⟨hv0, by omega⟩) rfl rfl rfl ?_
 refine dv 2 fun K K' => ?_
 refine v3v (b := b8y true (a8t n (nl n (n.lanes.set i (a2g l p)))).lanes) 3 4 rfl rfl rfl (.ref rfl (Le.ow_map _ (fun _ => rfl) (fun _ => rfl)) .nil) rfl rfl rfl rfl ?_
 refine v3v (b := c3a true (a8t n (nl n (n.lanes.set i (a2g l p)))).views) 3 9 rfl rfl rfl (.ref rfl (Le.ow_map _ (fun _ => rfl) (fun _ => rfl)) .nil) rfl rfl rfl rfl ?_
 refine v3v (b := a5k true (a8t n (nl n (n.lanes.set i (a2g l p)))).known) 3 10 rfl rfl rfl (.ref rfl (Le.ow_map _ (fun _ => rfl) (fun _ => rfl)) .nil) rfl rfl rfl rfl ?_
 refine dv 2 ?_
 refine x0x rfl rfl rfl (w3w true (a8t n (nl n (n.lanes.set i (a2g l p))))) ?_
 refine dc 1 (aI ?_ ?_)<;>intro hc11<;>try simp at hc11
 ·refine dv 2 ?_
  refine rlM [7, 8, 9] [_, _, _] (y0y true n fb) rfl rfl rfl ?_
  refine dv 2 ?_
  (refine v3v (b := b8y true n.lanes) 1 4 rfl rfl rfl (.ref rfl (Le.ow_map _ (fun _ => rfl) (fun _ => rfl)) .nil) rfl rfl rfl rfl ?_; refine v3v (b := c3a true n.views) 1 9 rfl rfl rfl (.ref rfl (Le.ow_map _ (fun _ => rfl) (fun _ => rfl)) .nil) rfl rfl rfl rfl ?_; refine v3v (b := a5k true n.known) 1 10 rfl rfl rfl (.ref rfl (Le.ow_map _ (fun _ => rfl) (fun _ => rfl)) .nil) rfl rfl rfl rfl ?_)
  refine dv 1 ?_
  exact ⟨(n, false), hn, [], rfl, rfl, x4x⟩
 have fK2 : y4y (a8t n (nl n (n.lanes.set i (a2g l p)))) := a0r.1 (by simpa using hc11)
 have fb2 := b8c fK2.1
 refine dv 3 ?_
 refine rlM [7, 8, 9] [_, _, _] (y0y true (a8t n (nl n (n.lanes.set i (a2g l p)))) fb2) rfl rfl rfl ?_
 refine dv 2 ?_
 (refine v3v (b := b8y true (a8t n (nl n (n.lanes.set i (a2g l p)))).lanes) 1 4 rfl rfl rfl (.ref rfl (Le.ow_map _ (fun _ => rfl) (fun _ => rfl)) .nil) rfl rfl rfl rfl ?_; refine v3v (b := c3a true (a8t n (nl n (n.lanes.set i (a2g l p)))).views) 1 9 rfl rfl rfl (.ref rfl (Le.ow_map _ (fun _ => rfl) (fun _ => rfl)) .nil) rfl rfl rfl rfl ?_; refine v3v (b := a5k true (a8t n (nl n (n.lanes.set i (a2g l p)))).known) 1 10 rfl rfl rfl (.ref rfl (Le.ow_map _ (fun _ => rfl) (fun _ => rfl)) .nil) rfl rfl rfl rfl ?_)
 refine dv 1 ?_
 exact ⟨((a8t n (nl n (n.lanes.set i (a2g l p)))), true), ⟨fK2, c5a hoM⟩, [], rfl, rfl, x4x⟩
end
section
theorem b4h (c : Bool) (l : List Int) : a0p Tryz.prog 259 [a5k c l] (.pv (.bool (decide (c3n l)))) := by
 refine pX Tryz.f259 [.pv (.bool (decide (c3n l)))] 0 ?_
 refine w1w 0 rfl fun hlen => ?_
 refine dc 8 (fun K K' => aS ?_ ?_)<;>intro o<;>try simp at o
 ·refine dv 4 ?_
  have hL : l.length = 0 ∨ l.length = 3 := by (simp_all; done)
  refine dv 5 fun K K' => ?_
  refine x5x (ι := Nat) (fun i γ2 => [(3, pI (i : Int))]) (fun i γ2 => []) (fun i => i ≤ l.length ∧ c7o l (fun _ v => 0 ≤ v ∧ v ≤ 9999) i) (fun i => l.length - i) (x8x 0 rfl Cov.nil) HE.nil 0 ⟨by omega, a1f⟩ [] x6x x4x rfl fun i γ2 hi => ?_
  obtain ⟨h1, h2⟩ := hi
  refine dc 6 (fun K K' => aS ?_ ?_)<;>intro o<;>try simp at o
  ·have hall := a2v h2 (by omega)
   refine dv 4 ?_
   refine x3x rfl ?_ rfl
   exact kT ⟨hL, fun v hv => by obtain ⟨i, hi⟩ := List.getElem?_of_mem hv; exact hall i v hi⟩
  obtain ⟨v, hv⟩ := gE l i
  refine dv 8 fun K K' => ?_
  refine x0x rfl rfl rfl (z6z ..) (x0x rfl rfl rfl (y7y ..) (dc 1 (aS ?_ ?_)))<;>intro o<;>try simp at o
  ·have hb : 0 ≤ v ∧ v ≤ 9999 := by omega
   refine dv 3 ?_
   refine x7x (b := 1) rfl rfl (by omega) (dv 1 ?_)
   exact ⟨i + 1, ⟨⟨by omega, r5r h2 hv hb⟩, by omega⟩, [], x6x, x6x, x4x, x4x, rfl⟩
  have hX2 : ¬ (0 ≤ v ∧ v ≤ 9999) := by omega
  refine dv 3 ?_
  refine x3x rfl ?_ rfl
  exact kF (fun h => hX2 (h.2 v (List.mem_of_getElem? hv)))
 refine dc 4 (aI ?_ ?_)<;>intro o<;>try simp at o
 ·have hX : ¬ (l.length = 0 ∨ l.length = 3) := by (rintro (h | h); exact absurd (List.length_eq_zero_iff.1 h) ‹_›; omega)
  refine dv 3 ?_
  refine x3x rfl ?_ rfl
  exact kF (fun h => hX h.1)
 have hL : l.length = 0 ∨ l.length = 3 := by omega
 refine dv 5 fun K K' => ?_
 refine x5x (ι := Nat) (fun i γ1 => [(3, pI (i : Int))]) (fun i γ1 => []) (fun i => i ≤ l.length ∧ c7o l (fun _ v => 0 ≤ v ∧ v ≤ 9999) i) (fun i => l.length - i) (x8x 0 rfl Cov.nil) HE.nil 0 ⟨by omega, a1f⟩ [] x6x x4x rfl fun i γ1 hi => ?_
 obtain ⟨h1, h2⟩ := hi
 refine dc 6 (fun K K' => aS ?_ ?_)<;>intro o<;>try simp at o
 ·have hall := a2v h2 (by omega)
  refine dv 4 ?_
  refine x3x rfl ?_ rfl
  exact kT ⟨hL, fun v hv => by obtain ⟨i, hi⟩ := List.getElem?_of_mem hv; exact hall i v hi⟩
 obtain ⟨v, hv⟩ := gE l i
 refine dv 8 fun K K' => ?_
 refine x0x rfl rfl rfl (z6z ..) (x0x rfl rfl rfl (y7y ..) (dc 1 (aS ?_ ?_)))<;>intro o<;>try simp at o
 ·have hb : 0 ≤ v ∧ v ≤ 9999 := by omega
  refine dv 3 ?_
  refine x7x (b := 1) rfl rfl (by omega) (dv 1 ?_)
  exact ⟨i + 1, ⟨⟨by omega, r5r h2 hv hb⟩, by omega⟩, [], x6x, x6x, x4x, x4x, rfl⟩
 have hX2 : ¬ (0 ≤ v ∧ v ≤ 9999) := by omega
 refine dv 3 ?_
 refine x3x rfl ?_ rfl
 exact kF (fun h => hX2 (h.2 v (List.mem_of_getElem? hv)))
theorem b0u (c : Bool) (w : Wo) : a0p Tryz.prog 182 [.agg (u7u c w)] (.pv (.bool (decide (a3q w)))) := by
 refine pX Tryz.f182 [.pv (.bool (decide (a3q w)))] 1 ?_
 refine dv 1 ?_
 refine y2y (id := 0) rfl rfl rfl (dv 4 ?_)
 refine x0x rfl rfl rfl (y7y ..) (dc 1 (aS ?_ ?_))<;>intro o<;>try simp at o
 ·have hX : ¬ a4y w := by unfold a4y; omega
  refine dv 54 ?_
  refine x3x rfl ?_ rfl
  exact kF (fun h => hX h.1)
 refine dv 2 ?_
 refine x0x rfl rfl rfl (y7y ..) (dc 2 (aS ?_ ?_))<;>intro o<;>try simp at o
 ·have hX : ¬ a4y w := by unfold a4y; omega
  refine dv 49 ?_
  refine x3x rfl ?_ rfl
  exact kF (fun h => hX h.1)
 refine dv 2 ?_
 refine x0x rfl rfl rfl (y7y ..) (dc 2 (aS ?_ ?_))<;>intro o<;>try simp at o
 ·have hX : ¬ a4y w := by unfold a4y; omega
  refine dv 44 ?_
  refine x3x rfl ?_ rfl
  exact kF (fun h => hX h.1)
 refine dv 2 ?_
 refine x0x rfl rfl rfl (z6z ..) (dv 0 ?_)
 refine x0x rfl rfl rfl (y7y ..) (dc 2 (aS ?_ ?_))<;>intro o<;>try simp at o
 ·have hX : ¬ a4y w := by unfold a4y; omega
  refine dv 38 ?_
  refine x3x rfl ?_ rfl
  exact kF (fun h => hX h.1)
 refine dv 2 ?_
 refine x0x rfl rfl rfl (z6z ..) (dv 0 ?_)
 refine x0x rfl rfl rfl (y7y ..) (dc 2 (aS ?_ ?_))<;>intro o<;>try simp at o
 ·have hX : ¬ a4y w := by unfold a4y; omega
  refine dv 32 ?_
  refine x3x rfl ?_ rfl
  exact kF (fun h => hX h.1)
 refine dv 2 ?_
 refine x0x rfl rfl rfl (z6z ..) (dv 0 ?_)
 refine x0x rfl rfl rfl (y7y ..) (dc 2 (aS ?_ ?_))<;>intro o<;>try simp at o
 ·have hX : ¬ a4y w := by unfold a4y; omega
  refine dv 26 ?_
  refine x3x rfl ?_ rfl
  exact kF (fun h => hX h.1)
 refine dv 2 ?_
 refine x0x rfl rfl rfl (y7y ..) (dc 2 (aS ?_ ?_))<;>intro o<;>try simp at o
 ·have hX : ¬ a4y w := by unfold a4y; omega
  refine dv 21 ?_
  refine x3x rfl ?_ rfl
  exact kF (fun h => hX h.1)
 have hN : a4y w := by unfold a4y; omega
 refine dv 2 ?_
 refine x0x rfl rfl rfl (b4h ..) (dc 2 (aS ?_ ?_))<;>intro hg8<;>try simp at hg8
 ·have hX1 : ¬ c3n w.incs := hg8
  refine dv 16 ?_
  refine x3x rfl ?_ rfl
  exact kF (fun h => hX1 h.2.1)
 have hI : c3n w.incs := hg8
 refine dv 2 ?_
 refine x0x rfl rfl rfl (b4h ..) (dc 2 (aS ?_ ?_))<;>intro hg9<;>try simp at hg9
 ·have hX2 : ¬ c3n w.versions := hg9
  refine dv 11 ?_
  refine x3x rfl ?_ rfl
  exact kF (fun h => hX2 h.2.2.1)
 have hV : c3n w.versions := hg9
 refine dv 2 ?_
 refine x0x rfl rfl rfl (a3n ..) (dv 0 ?_)
 refine x0x rfl rfl rfl (a3i ..) (dc 2 (aS ?_ ?_))<;>intro hg10<;>try simp at hg10
 ·have hX3 : ¬ a7o okE a2e w.events 100 = true := by simpa using hg10
  refine dv 5 ?_
  refine x3x rfl ?_ rfl
  exact kF (fun h => hX3 h.2.2.2.1)
 have hE : a7o okE a2e w.events 100 = true := hg10
 refine dv 2 ?_
 refine x0x rfl rfl rfl (a6y ..) (dv 3 ?_)
 refine x3x rfl ?_ rfl
 exact congrArg (fun b : Bool => [AV.pv (.bool b)]) (Bool.eq_iff_iff.2 ⟨fun h => decide_eq_true ⟨hN, hI, hV, hE, h⟩, fun h => (of_decide_eq_true h).2.2.2.2⟩)
theorem a4b (c : Bool) (w : Wo) (hb : wob w) : a0p Tryz.prog 331 [.agg (u7u c w)] (.agg (u7u true w)) := by
 refine pX Tryz.f331 [.agg (u7u true w)] 10 ?_
 obtain ⟨b1, b2, b3, b4⟩ := hb
 refine dv 1 ?_
 refine y2y (id := 0) rfl rfl rfl (x2x (id := 1) w2w a9k rfl (dv 1 ?_))
 refine x9x (id := 2) a0d rfl q9q rfl (dv 2 ?_)
 refine a1i v7v (zs := (w.incs).map a6f) rfl rfl a0d rfl q9q rfl rfl rfl (z9z (fun _ => rfl) _) rfl (by (simp only [a0f, r7r, s3s, s6s, a0v, a3d, T3]; omega)) (Le.ow_map _ (fun _ => rfl) (fun _ => rfl)) ?_
 refine dv 3 ?_
 refine x9x (id := 4) a0d rfl q9q rfl (dv 2 ?_)
 refine a1i v7v (zs := (w.versions).map a6f) rfl rfl a0d rfl q9q rfl rfl rfl (z9z (fun _ => rfl) _) rfl (by (simp only [a0f, r7r, s3s, s6s, a0v, a3d, T3]; omega)) (Le.ow_map _ (fun _ => rfl) (fun _ => rfl)) ?_
 refine dv 3 ?_
 refine x9x (id := 6) v2v rfl z3z rfl (dv 2 ?_)
 refine a1i v7v (zs := (w.events).map z2z) rfl rfl v2v rfl z3z rfl rfl rfl (z9z (fun _ => rfl) _) rfl (by (simp only [a0f, r7r, s3s, s6s, a0v, a3d, T56]; omega)) (Le.ow_map _ (fun _ => rfl) (fun _ => rfl)) ?_
 refine dv 3 ?_
 refine x9x (id := 8) a0l rfl w6w rfl (dv 2 ?_)
 refine a1i v7v (zs := (w.outs).map r9r) rfl rfl a0l rfl w6w rfl rfl rfl (z9z (fun _ => rfl) _) rfl (by (simp only [a0f, r7r, s3s, s6s, a0v, a3d, T141]; omega)) (Le.ow_map _ (fun _ => rfl) (fun _ => rfl)) ?_
 refine dv 6 ?_
 exact a8r rfl rfl rfl rfl
theorem a8y (c : Bool) (l : List Wo) (k : Int) : a0p Tryz.prog 333 [v8v c l, .pv (.int .i64 k)] (.pv (.bool (kb (b1m l k ∧ (k = 3 → ∀ w ∈ l, a8f w))))) := by
 refine pX Tryz.f333 [.pv (.bool (kb (b1m l k ∧ (k = 3 → ∀ w ∈ l, a8f w))))] 0 ?_
 refine w1w 0 rfl fun hlen => ?_
 refine dv 6 fun K K' => ?_
 refine x5x (ι := Nat) (fun i γ1 => [(5, pI (i : Int))]) (fun i γ1 => []) (fun i => i ≤ l.length ∧ c7o l (fun j w => a3q w ∧ w.kind = k ∧ (∀ p, 0 < j → l[j - 1]? = some p → p.from' < w.from') ∧ (k = 3 → a8f w)) i) (fun i => l.length - i) (r3r [0, 1] rfl) HE.nil 0 ⟨by omega, a1f⟩ [] x6x x4x rfl fun i γ1 hi => ?_
 obtain ⟨h1, h2⟩ := hi
 refine dc 6 (fun K K' => aS ?_ ?_)<;>intro o<;>try simp at o
 ·have hall := a2v h2 (by omega)
  refine dv 4 ?_
  refine x3x rfl ?_ rfl
  exact congrArg (fun b : Bool => [AV.pv (.bool b)]) (d8z ⟨fun j w hw => ⟨(hall j w hw).1, (hall j w hw).2.1, (hall j w hw).2.2.1⟩, fun e w hw => by obtain ⟨j, hj⟩ := List.getElem?_of_mem hw; exact (hall j w hj).2.2.2 e⟩)
 obtain ⟨w, hw⟩ := gE l i
 refine dv 8 fun K K' K K' => ?_
 refine v9v (out := .agg (u7u c w)) rfl w2w rfl ?_
 refine x0x rfl rfl rfl (b0u ..) (dc 2 (aS ?_ ?_))<;>intro hg6<;>try simp at hg6
 ·have hX : ¬ a3q w := hg6
  refine dv 26 ?_
  try have hXo : ¬ p.from' < w.from' := by omega
  refine dv 3 ?_
  refine x3x rfl ?_ rfl
  exact congrArg (fun b : Bool => [AV.pv (.bool b)]) (a4p (fun h => hX (h.1 i w hw).1))
 have hW : a3q w := hg6
 refine dc 9 (aS ?_ ?_)<;>intro hg7<;>try simp at hg7
 ·try have hXk : ¬ w.kind = k := hg7
  refine dv 17 ?_
  try have hXo : ¬ p.from' < w.from' := by omega
  refine dv 3 ?_
  refine x3x rfl ?_ rfl
  exact congrArg (fun b : Bool => [AV.pv (.bool b)]) (a4p (fun h => hXk (h.1 i w hw).2.1))
 have hk : w.kind = k := hg7
 refine dc 3 (aS ?_ ?_)<;>intro o<;>try simp at o
 ·have hi0 : i = 0 := by omega
  have hO : ∀ p, 0 < i → l[i - 1]? = some p → p.from' < w.from' := fun p h => by omega
  refine dv 14 ?_
  try have hO : ∀ p, 0 < i → l[i - 1]? = some p → p.from' < w.from' := fun p2 _ h => by rw [hp] at h; cases h; omega
  refine dc 5 (aS ?_ ?_)<;>intro o<;>try simp at o
  ·refine dv 17 ?_
   have hF : k = 3 → a8f w := by intro _; exact ⟨by omega, by omega⟩
   refine dv 3 ?_
   refine x7x (b := 1) rfl rfl (by omega) (dv 1 ?_)
   exact ⟨i + 1, ⟨⟨by omega, r5r h2 hw ⟨hW, hk, hO, hF⟩⟩, by omega⟩, [], x6x, x6x, x4x, x4x, rfl⟩
  refine dc 8 (aS ?_ ?_)<;>intro o<;>try simp at o
  ·refine dv 9 ?_
   have hX5 : ¬ (k = 3 → a8f w) := fun h => by have := h (by omega); unfold a8f at this; omega
   refine dv 3 ?_
   refine x3x rfl ?_ rfl
   exact congrArg (fun b : Bool => [AV.pv (.bool b)]) (a4p (fun h => hX5 (fun e => h.2 e w (List.mem_of_getElem? hw))))
  refine dc 9 (aS ?_ ?_)<;>intro o<;>try simp at o
  ·have hF : k = 3 → a8f w := by intro _; exact ⟨by omega, by omega⟩
   refine dv 3 ?_
   refine x7x (b := 1) rfl rfl (by omega) (dv 1 ?_)
   exact ⟨i + 1, ⟨⟨by omega, r5r h2 hw ⟨hW, hk, hO, hF⟩⟩, by omega⟩, [], x6x, x6x, x4x, x4x, rfl⟩
  have hX5 : ¬ (k = 3 → a8f w) := fun h => by have := h (by omega); unfold a8f at this; omega
  refine dv 3 ?_
  refine x3x rfl ?_ rfl
  exact congrArg (fun b : Bool => [AV.pv (.bool b)]) (a4p (fun h => hX5 (fun e => h.2 e w (List.mem_of_getElem? hw))))
 obtain ⟨p, hp⟩ := gE l (i - 1)
 refine dv 2 ?_
 refine r0r (b := 1) rfl rfl (by omega) (by omega) (dc 11 (aI ?_ ?_))<;>intro o<;>try simp at o
 ·try have hXo : ¬ p.from' < w.from' := by omega
  refine dv 3 ?_
  refine x3x rfl ?_ rfl
  exact congrArg (fun b : Bool => [AV.pv (.bool b)]) (a4p (fun h => hXo ((h.1 i w hw).2.2 p (by omega) hp)))
 try have hO : ∀ p, 0 < i → l[i - 1]? = some p → p.from' < w.from' := fun p2 _ h => by rw [hp] at h; cases h; omega
 refine dc 5 (aS ?_ ?_)<;>intro o<;>try simp at o
 ·refine dv 17 ?_
  have hF : k = 3 → a8f w := by intro _; exact ⟨by omega, by omega⟩
  refine dv 3 ?_
  refine x7x (b := 1) rfl rfl (by omega) (dv 1 ?_)
  exact ⟨i + 1, ⟨⟨by omega, r5r h2 hw ⟨hW, hk, hO, hF⟩⟩, by omega⟩, [], x6x, x6x, x4x, x4x, rfl⟩
 refine dc 8 (aS ?_ ?_)<;>intro o<;>try simp at o
 ·refine dv 9 ?_
  have hX5 : ¬ (k = 3 → a8f w) := fun h => by have := h (by omega); unfold a8f at this; omega
  refine dv 3 ?_
  refine x3x rfl ?_ rfl
  exact congrArg (fun b : Bool => [AV.pv (.bool b)]) (a4p (fun h => hX5 (fun e => h.2 e w (List.mem_of_getElem? hw))))
 refine dc 9 (aS ?_ ?_)<;>intro o<;>try simp at o
 ·have hF : k = 3 → a8f w := by intro _; exact ⟨by omega, by omega⟩
  refine dv 3 ?_
  refine x7x (b := 1) rfl rfl (by omega) (dv 1 ?_)
  exact ⟨i + 1, ⟨⟨by omega, r5r h2 hw ⟨hW, hk, hO, hF⟩⟩, by omega⟩, [], x6x, x6x, x4x, x4x, rfl⟩
 have hX5 : ¬ (k = 3 → a8f w) := fun h => by have := h (by omega); unfold a8f at this; omega
 refine dv 3 ?_
 refine x3x rfl ?_ rfl
 exact congrArg (fun b : Bool => [AV.pv (.bool b)]) (a4p (fun h => hX5 (fun e => h.2 e w (List.mem_of_getElem? hw))))
theorem a8o (c : Bool) (h : Hb) : a0p Tryz.prog 323 [.agg (a6w c h)] (.pv (.bool (kb (s9s h)))) := by
 refine pX Tryz.f323 [.pv (.bool (kb (s9s h)))] 1 ?_
 refine dv 1 ?_
 refine y2y (id := 0) rfl rfl rfl (dv 4 ?_)
 refine x0x rfl rfl rfl (z6z ..) (x0x rfl rfl rfl (y7y ..) (dc 1 (aS ?_ ?_)))<;>intro o<;>try simp at o
 ·have hX : ¬ (0 ≤ h.round ∧ h.round ≤ 9999) := by omega
  refine dv 15 ?_
  refine x3x rfl ?_ rfl
  exact congrArg (fun b : Bool => [AV.pv (.bool b)]) (a4p (fun h => hX h.1))
 have hR : 0 ≤ h.round ∧ h.round ≤ 9999 := by omega
 refine dv 2 ?_
 refine x0x rfl rfl rfl (a8y ..) (dc 2 (aS ?_ ?_))<;>intro hg2<;>try simp at hg2
 ·have hX1 : ¬ (b1m h.ones 3 ∧ ((3 : Int) = 3 → ∀ w ∈ h.ones, a8f w)) := a0x (by simpa using hg2)
  refine dv 10 ?_
  refine x3x rfl ?_ rfl
  exact congrArg (fun b : Bool => [AV.pv (.bool b)]) (a4p (fun h => hX1 ⟨h.2.1, fun _ => h.2.2.2.2⟩))
 have h1 : b1m h.ones 3 ∧ ((3 : Int) = 3 → ∀ w ∈ h.ones, a8f w) := a0r.1 (by simpa using hg2)
 refine dv 2 ?_
 refine x0x rfl rfl rfl (a8y ..) (dc 2 (aS ?_ ?_))<;>intro hg3<;>try simp at hg3
 ·have hX2 : ¬ (b1m h.twos 5 ∧ ((5 : Int) = 3 → ∀ w ∈ h.twos, a8f w)) := a0x (by simpa using hg3)
  refine dv 5 ?_
  refine x3x rfl ?_ rfl
  exact congrArg (fun b : Bool => [AV.pv (.bool b)]) (a4p (fun h => hX2 ⟨h.2.2.1, fun e => by omega⟩))
 have h2 : b1m h.twos 5 ∧ ((5 : Int) = 3 → ∀ w ∈ h.twos, a8f w) := a0r.1 (by simpa using hg3)
 refine dv 2 ?_
 refine x0x rfl rfl rfl (a8y ..) (dv 3 ?_)
 refine x3x rfl ?_ rfl
 exact congrArg (fun b : Bool => [AV.pv (.bool b)]) (congrArg kb (propext ⟨fun h => ⟨hR, h1.1, h2.1, h.1, h1.2 rfl⟩, fun h => ⟨h.2.2.2.1, fun e => by omega⟩⟩))
end
section
theorem a7x (c : Bool) (l : List Wo) (hb : ∀ w ∈ l, wob w) (hl : l.length ≤ 1000000) : a0p Tryz.prog 334 [v8v c l] (v8v true l) := by
 refine pX Tryz.f334 [v8v true l] 3 ?_
 refine dv 3 ?_
 refine x9x (id := 0) p8p rfl w2w rfl (dv 5 fun K K' => ?_)
 refine x5x (ι := Nat) (fun i γ1 => [(3, .ref 0 (γ1 0)), (4, pI (i : Int))]) (fun i γ1 => [(0, ((γ1 0), .row 79 11 ((l.take i).map (u7u true)))), (1, ((γ1 1), .dead)), (2, ((γ1 2), .dead))]) (fun i => i ≤ l.length) (fun i => l.length - i) (x8x 0 rfl Cov.nil) HE.nil 0 (by omega) [_, _, _] x6x (HE.row rfl (by rw [List.take_zero]; rfl) (HE.kill rfl (HE.kill rfl HE.nil))) rfl fun i γ1 hi => ?_
 refine dc 6 (fun K K' => aS ?_ ?_)<;>intro u<;>try simp at u
 ·obtain rfl : i = l.length := by omega
  refine dv 5 ?_
  refine a2t rfl rfl (fun _ => rfl) ?_
  rw [List.take_length]
 obtain ⟨w, hw⟩ := gE l i
 have hwb := hb w (List.mem_of_getElem? hw)
 refine dv 8 fun K K' => ?_
 refine v9v (out := .agg (u7u c w)) rfl w2w rfl ?_
 refine x0x rfl rfl rfl (a4b c w hwb) (y5y (id := 1) p8p rfl w2w rfl rfl rfl rfl rfl rfl ?_)
 refine y6y (zs := (l.take i ++ [w]).map (u7u true)) rfl rfl p8p rfl w2w rfl rfl rfl rfl (by rfl) (z8z _ _ _) (by (simp only [a0f, r7r, s3s, s6s, a0v, a3d, T79]; omega)) ?_
 refine dv 3 ?_
 refine u6u rfl rfl rfl (dv 1 ?_)
 exact ⟨i + 1, ⟨by omega, by omega⟩, [_, _, _], (x8x 3 rfl (Cov.cons' (t := 4) rfl (by rw [y1y (by omega) (by omega)]; rfl) Cov.nil)), x6x, (HE.row rfl (by rw [z7z hw]) (HE.kill rfl (HE.kill rfl HE.nil))), x4x, rfl⟩
theorem a2s (c : Bool) (h : Hb) (hk : s9s h) : a0p Tryz.prog 324 [.agg (a6w c h)] (.agg (a6w true h)) := by
 refine pX Tryz.f324 [.agg (a6w true h)] 2 ?_
 have e1 := b5j hk.2.1
 have e2 := b5j hk.2.2.1
 have e3 := b5j hk.2.2.2.1
 refine dv 1 ?_
 refine y2y (id := 0) rfl rfl rfl (x2x (id := 1) a5u b4u rfl (dv 5 ?_))
 refine x0x rfl rfl rfl (a7x c h.ones (d1x hk.2.1) (by omega)) ?_
 refine dv 2 ?_
 refine x0x rfl rfl rfl (a7x c h.twos (d1x hk.2.2.1) (by omega)) ?_
 refine dv 2 ?_
 refine x0x rfl rfl rfl (a7x c h.outs (d1x hk.2.2.2.1) (by omega)) ?_
 refine rlB a5u b4u ?_
 refine dv 2 ?_
 exact a8r rfl rfl rfl rfl
theorem a7c (l : List Wo) (w : Wo) (ag : Bool) (hl : l.length ≤ 1000000) : a0p Tryz.prog 330 [v8v true l, .agg (u7u true w), .pv (.bool (ag))] (v8v true (a6b w ag l false)) := by
 refine pX Tryz.f330 [v8v true (a6b w ag l false)] 10 ?_
 refine dv 1 ?_
 refine y2y (id := 0) rfl rfl rfl (dv 2 ?_)
 refine x9x (id := 1) p8p rfl w2w rfl (dv 7 fun K K' => ?_)
 refine x5x (ι := List Wo × Bool × Nat) (fun p γ1 => [(7, .ref 1 (γ1 1)), (8, .pv (.bool (p.2.1))), (9, pI (p.2.2 : Int))]) (fun p γ1 => [(1, ((γ1 1), .row 79 11 ((p.1).map (u7u true)))), (2, ((γ1 2), .dead)), (3, ((γ1 3), .dead)), (4, ((γ1 4), .dead)), (5, ((γ1 5), .dead)), (6, ((γ1 6), .dead)), (7, ((γ1 7), .dead))]) (fun p => p.2.2 ≤ l.length ∧ p.1.length ≤ 2 * p.2.2 ∧ p.1 ++ a6b w ag (l.drop p.2.2) p.2.1 = a6b w ag l false) (fun p => l.length - p.2.2) (r3r [0, 2, 4] rfl) (a1c [0, 8, 9] rfl) ([], false, 0) ⟨by show 0 ≤ _; omega, by show 0 ≤ _; omega, rfl⟩ [0, _, _, _, _, _, _, _] x6x x4x rfl fun p γ1 hi => ?_
 obtain ⟨o, d, i⟩ := p
 obtain ⟨h1, h2, h3⟩ := hi
 dsimp only at h1 h2 h3 ⊢
 refine dc 6 (fun K K' => aS ?_ ?_)<;>intro u<;>try simp at u
 ·obtain rfl : i = l.length := by omega
  rw [List.drop_length] at h3
  refine dc 5 (fun K K' => aS ?_ ?_)<;>intro hc15<;>try simp at hc15
  ·obtain rfl : d = true := hc15
   refine dv 5 ?_
   refine a2t rfl rfl (fun _ => rfl) ?_
   (rw [← h3]; exact (List.append_nil _).symm)
  obtain rfl : d = false := hc15
  refine dv 3 ?_
  refine y5y (id := 8) p8p rfl w2w rfl rfl rfl rfl rfl rfl ?_
  refine y6y (zs := (o ++ [w]).map (u7u true)) rfl rfl p8p rfl w2w rfl rfl rfl rfl (by rfl) (z8z _ _ _) (by (simp only [a0f, r7r, s3s, s6s, a0v, a3d, T79]; omega)) ?_
  refine dv 5 ?_
  refine a2t rfl rfl (fun _ => rfl) ?_
  exact h3
 obtain ⟨x, hx⟩ := gE l i
 refine dc 13 (fun K K' K K' => aI ?_ ?_)<;>intro hc6<;>try simp at hc6
 ·have hq : x.from' = w.from' := hc6
  refine dc 4 (aI ?_ ?_)<;>intro hc7<;>try simp at hc7
  ·obtain rfl : ag = true := hc7
   have hN : i + 1 ≤ l.length ∧ (o ++ [w]).length ≤ 2 * (i + 1) ∧ (o ++ [w]) ++ a6b w true (l.drop (i + 1)) true = a6b w true l false := ⟨by omega, by simp only [r7r, s3s, s6s]; omega, b0s h3 (by rw [p3p hx]; exact f1x hq)⟩
   refine dv 3 ?_
   refine y5y (id := 2) p8p rfl w2w rfl rfl rfl rfl rfl rfl ?_
   refine y6y (zs := (o ++ [w]).map (u7u true)) rfl rfl p8p rfl w2w rfl rfl rfl rfl (by rfl) (z8z _ _ _) (by (simp only [a0f, r7r, s3s, s6s, a0v, a3d, T79]; omega)) ?_
   refine dv 4 ?_
   refine x7x (b := 1) rfl rfl (by omega) (dv 1 ?_)
   exact ⟨(_, _, _), ⟨hN, (by show l.length - (i + 1) < l.length - i; omega)⟩, [0, _, _, _, _, _, _, _], x6x, x6x, x4x, x4x, rfl⟩
  obtain rfl : ag = false := hc7
  have hN : i + 1 ≤ l.length ∧ (o ++ [x]).length ≤ 2 * (i + 1) ∧ (o ++ [x]) ++ a6b w false (l.drop (i + 1)) true = a6b w false l false := ⟨by omega, by simp only [r7r, s3s, s6s]; omega, b0s h3 (by rw [p3p hx]; exact f1y hq)⟩
  refine dv 16 fun K K' => ?_
  try have hN : i + 1 ≤ l.length ∧ (o ++ [x]).length ≤ 2 * (i + 1) ∧ (o ++ [x]) ++ a6b w ag (l.drop (i + 1)) false = a6b w ag l false := ⟨by omega, by simp only [r7r, s3s, s6s]; omega, b0s h3 (by rw [p3p hx]; exact d4h hq (by rintro ⟨_, h⟩; omega))⟩
  refine dv 6 ?_
  refine v9v (out := .agg (u7u true x)) rfl w2w rfl ?_
  refine y5y (id := 6) p8p rfl w2w rfl rfl rfl rfl rfl rfl ?_
  refine y6y (zs := (o ++ [x]).map (u7u true)) rfl rfl p8p rfl w2w rfl rfl rfl rfl (by rfl) (z8z _ _ _) (by (simp only [a0f, r7r, s3s, s6s, a0v, a3d, T79]; omega)) ?_
  refine dv 3 ?_
  refine x7x (b := 1) rfl rfl (by omega) (dv 1 ?_)
  exact ⟨(_, _, _), ⟨hN, (by show l.length - (i + 1) < l.length - i; omega)⟩, [0, _, _, _, _, _, _, _], x6x, x6x, x4x, x4x, rfl⟩
 have hq : ¬ x.from' = w.from' := hc6
 refine dc 6 (fun K K' => aS ?_ ?_)<;>intro hg11<;>try simp at hg11
 ·obtain rfl : d = true := hg11
  have hN : i + 1 ≤ l.length ∧ (o ++ [x]).length ≤ 2 * (i + 1) ∧ (o ++ [x]) ++ a6b w ag (l.drop (i + 1)) true = a6b w ag l false := ⟨by omega, by simp only [r7r, s3s, s6s]; omega, b0s h3 (by rw [p3p hx]; exact d4h hq (by simp))⟩
  refine dv 9 ?_
  try have hN : i + 1 ≤ l.length ∧ (o ++ [x]).length ≤ 2 * (i + 1) ∧ (o ++ [x]) ++ a6b w ag (l.drop (i + 1)) false = a6b w ag l false := ⟨by omega, by simp only [r7r, s3s, s6s]; omega, b0s h3 (by rw [p3p hx]; exact d4h hq (by rintro ⟨_, h⟩; omega))⟩
  refine dv 6 ?_
  refine v9v (out := .agg (u7u true x)) rfl w2w rfl ?_
  refine y5y (id := 6) p8p rfl w2w rfl rfl rfl rfl rfl rfl ?_
  refine y6y (zs := (o ++ [x]).map (u7u true)) rfl rfl p8p rfl w2w rfl rfl rfl rfl (by rfl) (z8z _ _ _) (by (simp only [a0f, r7r, s3s, s6s, a0v, a3d, T79]; omega)) ?_
  refine dv 3 ?_
  refine x7x (b := 1) rfl rfl (by omega) (dv 1 ?_)
  exact ⟨(_, _, _), ⟨hN, (by show l.length - (i + 1) < l.length - i; omega)⟩, [0, _, _, _, _, _, _, _], x6x, x6x, x4x, x4x, rfl⟩
 obtain rfl : d = false := hg11
 refine dc 9 (aS ?_ ?_)<;>intro u<;>try simp at u
 ·try have hN : i + 1 ≤ l.length ∧ (o ++ [x]).length ≤ 2 * (i + 1) ∧ (o ++ [x]) ++ a6b w ag (l.drop (i + 1)) false = a6b w ag l false := ⟨by omega, by simp only [r7r, s3s, s6s]; omega, b0s h3 (by rw [p3p hx]; exact d4h hq (by rintro ⟨_, h⟩; omega))⟩
  refine dv 6 ?_
  refine v9v (out := .agg (u7u true x)) rfl w2w rfl ?_
  refine y5y (id := 6) p8p rfl w2w rfl rfl rfl rfl rfl rfl ?_
  refine y6y (zs := (o ++ [x]).map (u7u true)) rfl rfl p8p rfl w2w rfl rfl rfl rfl (by rfl) (z8z _ _ _) (by (simp only [a0f, r7r, s3s, s6s, a0v, a3d, T79]; omega)) ?_
  refine dv 3 ?_
  refine x7x (b := 1) rfl rfl (by omega) (dv 1 ?_)
  exact ⟨(_, _, _), ⟨hN, (by show l.length - (i + 1) < l.length - i; omega)⟩, [0, _, _, _, _, _, _, _], x6x, x6x, x4x, x4x, rfl⟩
 have hN : i + 1 ≤ l.length ∧ (o ++ [w] ++ [x]).length ≤ 2 * (i + 1) ∧ (o ++ [w] ++ [x]) ++ a6b w ag (l.drop (i + 1)) true = a6b w ag l false := ⟨by omega, by simp only [r7r, s3s, s6s]; omega, by rw [List.append_assoc o]; exact b0s h3 (by rw [p3p hx]; exact f1z hq (by omega))⟩
 refine dv 3 ?_
 refine y5y (id := 4) p8p rfl w2w rfl rfl rfl rfl rfl rfl ?_
 refine y6y (zs := (o ++ [w]).map (u7u true)) rfl rfl p8p rfl w2w rfl rfl rfl rfl (by rfl) (z8z _ _ _) (by (simp only [a0f, r7r, s3s, s6s, a0v, a3d, T79]; omega)) ?_
 refine dv 8 ?_
 refine v9v (out := .agg (u7u true x)) rfl w2w rfl ?_
 refine y5y (id := 6) p8p rfl w2w rfl rfl rfl rfl rfl rfl ?_
 refine y6y (zs := (o ++ [w] ++ [x]).map (u7u true)) rfl rfl p8p rfl w2w rfl rfl rfl rfl (by rfl) (z8z _ _ _) (by (simp only [a0f, r7r, s3s, s6s, a0v, a3d, T79]; omega)) ?_
 refine dv 3 ?_
 refine x7x (b := 1) rfl rfl (by omega) (dv 1 ?_)
 exact ⟨(_, _, _), ⟨hN, (by show l.length - (i + 1) < l.length - i; omega)⟩, [0, _, _, _, _, _, _, _], x6x, x6x, x4x, x4x, rfl⟩
theorem b7f (k f t i0 v r g : Int) : a0p Tryz.prog 325 [.agg [pI k, pI f, pI t, pI i0, pI v, pI r, pI g, .pv (.slice none 0 0), .pv (.slice none 0 0), .pv (.slice none 0 0), .pv (.slice none 0 0)]] (v8v true (e2h ⟨k, f, t, i0, v, r, g, [], [], [], []⟩)) := by
 refine pX Tryz.f325 [v8v true (e2h ⟨k, f, t, i0, v, r, g, [], [], [], []⟩)] 4 ?_
 refine dv 1 ?_
 refine y2y (id := 0) rfl rfl rfl (dv 2 ?_)
 refine x9x (id := 1) p8p rfl w2w rfl (dv 5 fun K K' => ?_)
 refine x5x (ι := Nat) (fun i γ1 => [(3, .ref 1 (γ1 1)), (4, pI ((i + 1 : Nat) : Int))]) (fun i γ1 => [(1, ((γ1 1), .row 79 11 ((List.range i).map fun (j : Nat) => [pI k, pI f, pI ((j + 1 : Nat) : Int), pI i0, pI v, pI r, pI g, .pv (.slice none 0 0), .pv (.slice none 0 0), .pv (.slice none 0 0), .pv (.slice none 0 0)]))), (0, ((0 + 1), .box 79 [pI k, pI f, pI (if i = 0 then t else ((i : Nat) : Int)), pI i0, pI v, pI r, pI g, .pv (.slice none 0 0), .pv (.slice none 0 0), .pv (.slice none 0 0), .pv (.slice none 0 0)])), (2, ((γ1 2), .dead)), (3, ((γ1 3), .dead))]) (fun i => i ≤ 2) (fun i => 2 - i) (x8x 1 rfl Cov.nil) HE.nil 0 (by omega) [0, _, _, _] x6x (HE.row rfl (by rfl) (HE.box rfl (by rfl) (HE.kill rfl (HE.kill rfl HE.nil)))) rfl fun i γ1 hi => ?_
 refine dc 4 (fun K K' => aS ?_ ?_)<;>intro u<;>try simp at u
 ·obtain rfl : i = 2 := by omega
  refine dv 4 ?_
  refine c8p (f := fun (j : Nat) => [pI k, pI f, pI ((j + 1 : Nat) : Int), pI i0, pI v, pI r, pI g, .pv (.slice none 0 0), .pv (.slice none 0 0), .pv (.slice none 0 0), .pv (.slice none 0 0)]) (f' := fun (j : Nat) => u7u true ⟨k, f, ((j + 1 : Nat) : Int), i0, v, r, g, [], [], [], []⟩) (l := List.range 2) 1 rfl (fun _ => .same (.same (.same (.same (.same (.same (.same (.le rfl .nil rfl (.le rfl .nil rfl (.le rfl .nil rfl (.le rfl .nil rfl .nil))))))))))) ?_
  refine dv 1 ?_
  exact a2t (l := List.range 2) (l' := List.range 2) (f := fun (j : Nat) => u7u true ⟨k, f, ((j + 1 : Nat) : Int), i0, v, r, g, [], [], [], []⟩) rfl rfl (fun _ => rfl) rfl
 refine dv 10 fun K K' => ?_
 refine y5y (id := 2) p8p rfl w2w rfl rfl rfl rfl rfl rfl ?_
 refine y6y (zs := ((List.range i).map fun (j : Nat) => [pI k, pI f, pI ((j + 1 : Nat) : Int), pI i0, pI v, pI r, pI g, .pv (.slice none 0 0), .pv (.slice none 0 0), .pv (.slice none 0 0), .pv (.slice none 0 0)]) ++ [[pI k, pI f, pI ((i + 1 : Nat) : Int), pI i0, pI v, pI r, pI g, .pv (.slice none 0 0), .pv (.slice none 0 0), .pv (.slice none 0 0), .pv (.slice none 0 0)]]) rfl rfl p8p rfl w2w rfl rfl rfl rfl (by rfl) rfl (by (simp only [a0f, r7r, s3s, s6s, a0v, a3d, T79]; omega)) ?_
 refine dv 3 ?_
 refine x7x (b := 1) rfl rfl (by omega) (dv 1 ?_)
 exact ⟨i + 1, ⟨by omega, by omega⟩, [0, _, _, _], x6x, x6x, (HE.row rfl (by rw [List.range_succ, List.map_append]; rfl) (HE.box rfl (by rw [if_neg (by omega : ¬ i + 1 = 0)] <;> rfl) (HE.kill rfl (HE.kill rfl HE.nil)))), x4x, rfl⟩
theorem c2p (k f t i0 v r g : Int) : Meth Tryz.prog 325 1 [] [.agg [pI k, pI f, pI t, pI i0, pI v, pI r, pI g, .pv (.slice none 0 0), .pv (.slice none 0 0), .pv (.slice none 0 0), .pv (.slice none 0 0)]] [(0, (0, .dead))] (.ref 0 0) [(0, (0, .row 79 11 ((e2h ⟨k, f, t, i0, v, r, g, [], [], [], []⟩).map (u7u true))))] := by
 refine mX Tryz.f325 [.ref 0 0] 1 3 fun γ => ?_
 refine dv 1 ?_
 refine y2y (id := 1) rfl rfl rfl (dv 2 ?_)
 refine x9x (id := 0) p8p rfl w2w rfl (dv 5 fun K K' => ?_)
 refine x5x (ι := Nat) (fun i γ1 => [(3, .ref 0 (γ1 0)), (4, pI ((i + 1 : Nat) : Int))]) (fun i γ1 => [(0, ((γ1 0), .row 79 11 ((List.range i).map fun (j : Nat) => [pI k, pI f, pI ((j + 1 : Nat) : Int), pI i0, pI v, pI r, pI g, .pv (.slice none 0 0), .pv (.slice none 0 0), .pv (.slice none 0 0), .pv (.slice none 0 0)]))), (1, ((0 + 1), .box 79 [pI k, pI f, pI (if i = 0 then t else ((i : Nat) : Int)), pI i0, pI v, pI r, pI g, .pv (.slice none 0 0), .pv (.slice none 0 0), .pv (.slice none 0 0), .pv (.slice none 0 0)])), (2, ((γ1 2), .dead)), (3, ((γ1 3), .dead))]) (fun i => i ≤ 2) (fun i => 2 - i) (x8x 1 rfl Cov.nil) HE.nil 0 (by omega) [_, 0, _, _] x6x (HE.row rfl (by rfl) (HE.box rfl (by rfl) (HE.kill rfl (HE.kill rfl HE.nil)))) rfl fun i γ1 hi => ?_
 refine dc 4 (fun K K' => aS ?_ ?_)<;>intro u<;>try simp at u
 ·obtain rfl : i = 2 := by omega
  refine dv 4 ?_
  refine c8p (f := fun (j : Nat) => [pI k, pI f, pI ((j + 1 : Nat) : Int), pI i0, pI v, pI r, pI g, .pv (.slice none 0 0), .pv (.slice none 0 0), .pv (.slice none 0 0), .pv (.slice none 0 0)]) (f' := fun (j : Nat) => u7u true ⟨k, f, ((j + 1 : Nat) : Int), i0, v, r, g, [], [], [], []⟩) (l := List.range 2) 0 rfl (fun _ => .same (.same (.same (.same (.same (.same (.same (.le rfl .nil rfl (.le rfl .nil rfl (.le rfl .nil rfl (.le rfl .nil rfl .nil))))))))))) ?_
  refine dv 1 ?_
  exact ⟨[_], rfl, rfl, x4x⟩
 refine dv 10 fun K K' => ?_
 refine y5y (id := 2) p8p rfl w2w rfl rfl rfl rfl rfl rfl ?_
 refine y6y (zs := ((List.range i).map fun (j : Nat) => [pI k, pI f, pI ((j + 1 : Nat) : Int), pI i0, pI v, pI r, pI g, .pv (.slice none 0 0), .pv (.slice none 0 0), .pv (.slice none 0 0), .pv (.slice none 0 0)]) ++ [[pI k, pI f, pI ((i + 1 : Nat) : Int), pI i0, pI v, pI r, pI g, .pv (.slice none 0 0), .pv (.slice none 0 0), .pv (.slice none 0 0), .pv (.slice none 0 0)]]) rfl rfl p8p rfl w2w rfl rfl rfl rfl (by rfl) rfl (by (simp only [a0f, r7r, s3s, s6s, a0v, a3d, T79]; omega)) ?_
 refine dv 3 ?_
 refine x7x (b := 1) rfl rfl (by omega) (dv 1 ?_)
 exact ⟨i + 1, ⟨by omega, by omega⟩, [_, 0, _, _], x6x, x6x, (HE.row rfl (by rw [List.range_succ, List.map_append]; rfl) (HE.box rfl (by rw [if_neg (by omega : ¬ i + 1 = 0)] <;> rfl) (HE.kill rfl (HE.kill rfl HE.nil)))), x4x, rfl⟩
theorem c7l (l : List Wo) (f : Int) : a0p Tryz.prog 329 [v8v true l, .pv (.int .i64 f)] (.tup [.agg (u7u true (f0h f l)), .pv (.bool (b5k f l).isSome)]) := by
 refine pX Tryz.f329 [.agg (u7u true (f0h f l)), .pv (.bool (b5k f l).isSome)] 1 ?_
 refine w1w 0 rfl fun hlen => ?_
 refine dv 1 ?_
 refine x2x (id := 0) w2w a9k rfl (dv 5 fun K K' => ?_)
 refine x5x (ι := Nat) (fun i γ1 => [(6, pI (i : Int))]) (fun i γ1 => []) (fun i => i ≤ l.length ∧ c7o l (fun _ w => ¬ w.from' = f) i) (fun i => l.length - i) (r3r [0, 1, 4] rfl) (w9w 0 rfl HE.nil) 0 ⟨by omega, a1f⟩ [] x6x x4x rfl fun i γ1 hi => ?_
 obtain ⟨h1, h2⟩ := hi
 refine dc 6 (fun K K' => aS ?_ ?_)<;>intro u<;>try simp at u
 ·have hno := e4s (a2v h2 (by omega))
  refine dv 2 ?_
  refine rlB w2w a9k ?_
  refine dv 3 ?_
  (rw [f0h, hno]; exact ⟨_, _, rfl, c6w (.cl rfl .nil)⟩)
 obtain ⟨w, hw⟩ := gE l i
 refine dc 11 (fun K K' => aS ?_ ?_)<;>intro hc5<;>try simp at hc5
 ·have hne : ¬ w.from' = f := hc5
  refine dv 3 ?_
  refine x7x (b := 1) rfl rfl (by omega) (dv 1 ?_)
  exact ⟨i + 1, ⟨⟨by omega, r5r h2 hw hne⟩, by omega⟩, [], x6x, x6x, x4x, x4x, rfl⟩
 have hat := d4i h2 hw hc5
 refine dv 4 ?_
 refine v9v (out := .agg (u7u true w)) rfl w2w rfl ?_
 refine dv 3 ?_
 (rw [f0h, hat]; exact ⟨_, _, rfl, .agg rfl (.cl rfl (.cl rfl (.cl rfl (.cl rfl (.cl rfl (.cl rfl (.cl rfl (.cl rfl (.cl rfl (.cl rfl (.cl rfl (.nil)))))))))))) (.cl rfl .nil)⟩)
theorem c2q (c : Bool) (h : Hb) : a0p Tryz.prog 332 [.agg (a6w c h)] (.tup [.pv (.int .i64 (p5p h).1), .pv (.bool (p5p h).2)]) := by
 refine pX Tryz.f332 [.pv (.int .i64 (p5p h).1), .pv (.bool ((p5p h).2))] 1 ?_
 refine dv 1 ?_
 refine y2y (id := 0) rfl rfl rfl (dv 5 fun K K' => ?_)
 refine x0x rfl rfl rfl (a8o ..) (dc 2 (aS ?_ ?_))<;>intro hg2<;>try simp at hg2
 ·have hX : ¬ a6k h := fun q => a0x (by simpa using hg2) q.1
  refine dv 11 ?_
  try have hX : ¬ a6k h := fun q => by have := q.2.1; have := q.2.2.1; omega
  refine dv 4 ?_
  (rw [b5l hX]; exact ⟨_, _, rfl, .cl rfl (.cl rfl .nil)⟩)
 have hK : s9s h := a0r.1 (by simpa using hg2)
 refine dc 6 (aS ?_ ?_)<;>intro u<;>try simp at u
 ·refine dv 5 ?_
  try have hX : ¬ a6k h := fun q => by have := q.2.1; have := q.2.2.1; omega
  refine dv 4 ?_
  (rw [b5l hX]; exact ⟨_, _, rfl, .cl rfl (.cl rfl .nil)⟩)
 refine dc 5 (aI ?_ ?_)<;>intro u<;>try simp at u
 ·try have hX : ¬ a6k h := fun q => by have := q.2.1; have := q.2.2.1; omega
  refine dv 4 ?_
  (rw [b5l hX]; exact ⟨_, _, rfl, .cl rfl (.cl rfl .nil)⟩)
 have e1 : h.ones.length = 3 := by omega
 have e2 : h.twos.length = 3 := by omega
 refine dv 7 fun K K' => ?_
 refine x5x (ι := Nat) (fun i γ1 => [(4, pI (a0y 41 (h.ones.take i))), (5, pI (i : Int))]) (fun i γ1 => []) (fun i => i ≤ 3 ∧ ∀ j, j < i → e0r h j) (fun i => 3 - i) (x8x 1 rfl Cov.nil) (w9w 0 rfl HE.nil) 0 ⟨by omega, fun j hj => by omega⟩ [] (Cov.cons' (t := 4) rfl (rfl) (x8x 5 rfl Cov.nil)) x4x rfl fun i γ1 hi => ?_
 obtain ⟨h1, h1b⟩ := hi
 refine dc 4 (fun K K' => aS ?_ ?_)<;>intro u<;>try simp at u
 ·obtain rfl : i = 3 := by omega
  have hT : a6k h := ⟨hK, e1, e2, fun j hj => h1b j hj⟩
  have e3 : a0y 41 (h.ones.take 3) = a0y 41 h.ones := by rw [List.take_of_length_le (by omega)]
  refine dv 6 ?_
  (rw [e9h hT, ← e3]; exact ⟨_, _, rfl, .cl rfl (.cl rfl .nil)⟩)
 obtain ⟨a, ha⟩ := gE h.ones i
 obtain ⟨b, hb⟩ := gE h.twos i
 refine dc 18 (fun K K' K K' => aI ?_ ?_)<;>intro hc10<;>try simp at hc10
 ·have hX : ¬ a6k h := fun q => by have := (q.2.2.2 i (by omega) a b ha hb).1; omega
  refine dv 4 ?_
  (rw [b5l hX]; exact ⟨_, _, rfl, .cl rfl (.cl rfl .nil)⟩)
 have hI : a.inc = b.inc := hc10
 refine dv 1 ?_
 refine p9p (ι := Unit) (fun _i γ2 => [(4, pI (a0y 41 (h.ones.take (i + 1))))]) (fun _i γ2 => []) (fun _i => True) (r3r [1, 5] rfl) (w9w 0 rfl HE.nil) ?_ fun _i γ2 hi => ?_
 ·refine dc 9 (aS ?_ ?_)<;>intro u<;>try simp at u
  ·have hlt : ¬ a.g < a0y 41 (h.ones.take i) := by omega
   refine dv 1 ?_
   exact ⟨(), trivial, [], (Cov.cons' (t := 4) rfl (congrArg (fun v : Int => AV.pv (.int .i64 v)) (d4k ha hlt)) Cov.nil), x6x, x4x, x4x, rfl⟩
  have hlt : a.g < a0y 41 (h.ones.take i) := by omega
  refine dv 8 ?_
  exact ⟨(), trivial, [], (Cov.cons' (t := 4) rfl (congrArg (fun v : Int => AV.pv (.int .i64 v)) (d4j ha hlt)) Cov.nil), x6x, x4x, x4x, rfl⟩
 ·try dsimp only [b1n, b1o]
  refine dv 3 ?_
  refine x5x (ι := Nat) (fun k γ3 => [(6, pI (k : Int))]) (fun k γ3 => []) (fun k => k ≤ 3 ∧ ∀ (q : Nat) x, q < k → q ≠ i → h.ones[q]? = some x → x.incs.getD i 0 = b.inc ∧ x.versions.getD i 0 = b.version) (fun k => 3 - k) (r3r [1, 4, 5] rfl) (w9w 0 rfl HE.nil) 0 ⟨by omega, fun q x hq => by omega⟩ [] x6x x4x rfl fun k γ3 hi => ?_
  obtain ⟨h2, h2b⟩ := hi
  refine dc 4 (fun K K' => aS ?_ ?_)<;>intro u<;>try simp at u
  ·have hJ : e0r h i := fun a2 b2 ha2 hb2 => by rw [ha] at ha2; rw [hb] at hb2; cases ha2; cases hb2; exact ⟨hI, fun q x hne hx => h2b q x (by have := (List.getElem?_eq_some_iff.1 hx).1; omega) hne hx⟩
   refine dv 3 ?_
   refine x7x (b := 1) rfl rfl (by omega) (dv 1 ?_)
   exact ⟨i + 1, ⟨⟨by omega, fun j hj => by rcases Nat.lt_succ_iff_lt_or_eq.1 hj with q | q; exact h1b j q; subst q; exact hJ⟩, by omega⟩, [], x6x, x6x, x4x, x4x, rfl⟩
  obtain ⟨x0, hx0⟩ := gE h.ones k
  have hfu := hK.2.2.2.2 x0 (List.mem_of_getElem? hx0)
  obtain ⟨fu1, fu2⟩ := hfu
  obtain ⟨z, hz⟩ := gE x0.incs i
  obtain ⟨y, hy⟩ := gE x0.versions i
  refine dc 8 (fun K K' => aS ?_ ?_)<;>intro u<;>try simp at u
  ·refine dv 35 ?_
   have hS : k ≠ i → x0.incs.getD i 0 = b.inc ∧ x0.versions.getD i 0 = b.version := fun hne => by rw [b2m hz, b2m hy]; omega
   refine dv 3 ?_
   refine x7x (b := 1) rfl rfl (by omega) (dv 1 ?_)
   exact ⟨k + 1, ⟨⟨by omega, fun q x hq hne hx => by rcases Nat.lt_succ_iff_lt_or_eq.1 hq with q1 | q1; exact h2b q x q1 hne hx; subst q1; rw [hx0] at hx; cases hx; exact hS hne⟩, by omega⟩, [], x6x, x6x, x4x, x4x, rfl⟩
  refine dc 17 (aS ?_ ?_)<;>intro u<;>try simp at u
  ·refine dv 18 ?_
   have hX : ¬ a6k h := fun q => by have := (q.2.2.2 i (by omega) a b ha hb).2 k x0 (by omega) hx0; rw [b2m hz, b2m hy] at this; omega
   refine dv 4 ?_
   (rw [b5l hX]; exact ⟨_, _, rfl, .cl rfl (.cl rfl .nil)⟩)
  refine dc 18 (aI ?_ ?_)<;>intro u<;>try simp at u
  ·have hX : ¬ a6k h := fun q => by have := (q.2.2.2 i (by omega) a b ha hb).2 k x0 (by omega) hx0; rw [b2m hz, b2m hy] at this; omega
   refine dv 4 ?_
   (rw [b5l hX]; exact ⟨_, _, rfl, .cl rfl (.cl rfl .nil)⟩)
  have hS : k ≠ i → x0.incs.getD i 0 = b.inc ∧ x0.versions.getD i 0 = b.version := fun hne => by rw [b2m hz, b2m hy]; omega
  refine dv 3 ?_
  refine x7x (b := 1) rfl rfl (by omega) (dv 1 ?_)
  exact ⟨k + 1, ⟨⟨by omega, fun q x hq hne hx => by rcases Nat.lt_succ_iff_lt_or_eq.1 hq with q1 | q1; exact h2b q x q1 hne hx; subst q1; rw [hx0] at hx; cases hx; exact hS hne⟩, by omega⟩, [], x6x, x6x, x4x, x4x, rfl⟩
end
section
theorem c3x (c : Bool) (n : Nd) (fS : a1j n) (i : Nat) (l : La) (hl : n.lanes[i]? = some l) : a0p Tryz.prog 141 [.agg (u0u c n), .pv (.int .i64 (i : Int))] (.tup [.agg (z2z (b1j l (a1g n l.proc)).1), .pv (.bool (b1j l (a1g n l.proc)).2)]) := by
 refine pX Tryz.f141 [.agg (z2z (b1j l (a1g n l.proc)).1), .pv (.bool (b1j l (a1g n l.proc)).2)] 2 ?_
 have fB := v6v fS
 refine dv 1 ?_
 refine y2y (id := 0) rfl rfl rfl (x2x (id := 1) z3z a8c rfl (dv 14 ?_))
 refine x0x rfl rfl rfl (a3y c n l.proc (a5j fS) (by omega) fS.2.2.2.2.2.1) ?_
 refine x0x rfl rfl rfl (b2u c true l (a1g n l.proc)) ?_
 refine dv 5 ?_
 exact ⟨_, _, rfl, .agg rfl (.cl rfl (.cl rfl (.cl rfl (.cl rfl (.cl rfl (.cl rfl (.cl rfl .nil))))))) (.cl rfl .nil)⟩
theorem b4i (c : Bool) (n : Nd) : a0p Tryz.prog 44 [.agg (u0u c n)] (.pv (.int .i64 (b8d n))) := by
 refine pX Tryz.f44 [.pv (.int .i64 (b8d n))] 2 ?_
 refine dv 1 ?_
 refine y2y (id := 0) rfl rfl rfl (dv 6 fun K K' => ?_)
 refine x0x rfl rfl rfl (w3w ..) (dc 1 (aI ?_ ?_))<;>intro hc2<;>try simp at hc2
 ·have fX : ¬ y4y n := a0x (by simpa using hc2)
  refine dv 3 ?_
  refine x3x rfl ?_ rfl
  exact congrArg (fun v : Int => [AV.pv (.int .i64 v)]) (d9i fX).symm
 have fK : y4y n := a0r.1 (by simpa using hc2)
 have fS := fK.1
 have fB := v6v fS
 refine dv 5 fun K K' => ?_
 refine x5x (ι := Nat) (fun i γ1 => [(3, pI (b1k n i)), (4, pI (i : Int))]) (fun i γ1 => [(1, ((γ1 1), .dead))]) (fun i => i ≤ n.lanes.length) (fun i => n.lanes.length - i) (x8x 1 rfl Cov.nil) (w9w 0 rfl HE.nil) 0 (by omega) [0, _] x6x x4x rfl fun i γ1 hi => ?_
 refine dc 7 (fun K K' => aS ?_ ?_)<;>intro j<;>try simp at j
 ·obtain rfl : i = n.lanes.length := by omega
  refine dv 5 ?_
  refine x3x rfl ?_ rfl
  exact congrArg (fun v : Int => [AV.pv (.int .i64 v)]) (c1n fK).symm
 obtain ⟨l, hl⟩ := gE n.lanes i
 have hnc := c1o fK hl
 refine dv 6 fun K K' => ?_
 refine x0x rfl rfl rfl (c3x c n fS i l hl) (dv 3 ?_)
 refine x2x (id := 1) z3z a8c rfl (dv 2 ?_)
 rw [c1m ⟨hnc.2.1, hnc.2.2.1⟩]
 refine dc 3 (aS ?_ ?_)<;>intro hg7<;>try simp at hg7
 ·have hno : ¬ ((a5c l (a1g n l.proc)).2 = true ∧ (a5c l (a1g n l.proc)).1.time < b1k n i) := fun h => by have := h.1; simp_all
  refine dv 8 ?_
  refine x7x (b := 1) rfl rfl (by omega) (dv 1 ?_)
  exact ⟨i + 1, ⟨by omega, by omega⟩, [0, _], (Cov.cons' (t := 3) rfl (congrArg (fun v : Int => AV.pv (.int .i64 v)) (d1j hl hno).symm) (x8x 4 rfl Cov.nil)), x6x, x4x, x4x, rfl⟩
 have h2 : (a5c l (a1g n l.proc)).2 = true := hg7
 refine dc 5 (aS ?_ ?_)<;>intro j<;>try simp at j
 ·have hno : ¬ ((a5c l (a1g n l.proc)).2 = true ∧ (a5c l (a1g n l.proc)).1.time < b1k n i) := by (intro h; omega)
  refine dv 3 ?_
  refine x7x (b := 1) rfl rfl (by omega) (dv 1 ?_)
  exact ⟨i + 1, ⟨by omega, by omega⟩, [0, _], (Cov.cons' (t := 3) rfl (congrArg (fun v : Int => AV.pv (.int .i64 v)) (d1j hl hno).symm) (x8x 4 rfl Cov.nil)), x6x, x4x, x4x, rfl⟩
 have h3 : (a5c l (a1g n l.proc)).1.time < b1k n i := by omega
 refine dv 6 ?_
 refine x7x (b := 1) rfl rfl (by omega) (dv 1 ?_)
 exact ⟨i + 1, ⟨by omega, by omega⟩, [0, _], (Cov.cons' (t := 3) rfl (congrArg (fun v : Int => AV.pv (.int .i64 v)) (d9h hl ⟨h2, h3⟩).symm) (x8x 4 rfl Cov.nil)), x6x, x4x, x4x, rfl⟩
end
section
theorem a9y (c : Bool) (n : Nd) (r : Int) : a0p Tryz.prog 61 [.agg (u0u c n), .pv (.int .i64 r)] (.tup [.agg (u0u true (u2u n r).1), .agg (u7u true (u2u n r).2.1), .pv (.bool (u2u n r).2.2)]) := by
 refine pX Tryz.f61 [.agg (u0u true (u2u n r).1), .agg (u7u true (u2u n r).2.1), .pv (.bool (u2u n r).2.2)] 14 ?_
 refine dv 1 ?_
 refine y2y (id := 0) rfl rfl rfl (x2x (id := 1) u1u q2q rfl (x2x (id := 2) w2w a9k rfl (dv 4 fun K K' => ?_)))
 refine x0x rfl rfl rfl (w3w ..) (dc 1 (aI ?_ ?_))<;>intro hc2<;>try simp at hc2
 ·have fX : ¬ y4y n := a0x (by simpa using hc2)
  refine dv 1 ?_
  refine rlB u1u q2q ?_
  refine rlB w2w a9k ?_
  refine dv 4 ?_
  (rw [e3q fX]; exact ⟨_, _, rfl, b5g (c6w (.cl rfl .nil))⟩)
 have fK : y4y n := a0r.1 (by simpa using hc2)
 have fS := fK.1
 have fB := v6v fS
 have fV := fS.2.2.2.2.2.1
 have fb := b8c fS
 refine dv 3 ?_
 refine rlM [9, 10, 11] [_, _, _] (y0y c n fb) rfl rfl rfl ?_
 refine x2x (id := 3) u1u q2q rfl (dc 7 (fun K K' => aS ?_ ?_))<;>intro hg4<;>try simp at hg4
 ·have fU : ¬ (n.up = true ∧ n.round + 1 ≤ r ∧ r ≤ 9999) := fun h => by have := h.1; simp_all
  refine dv 10 ?_
  refine rlB w2w a9k ?_
  refine dv 4 ?_
  (rw [d3q fK fU]; exact ⟨_, _, rfl, p7p rfl rfl rfl (c6w (.cl rfl .nil))⟩)
 have fUp : n.up = true := hg4
 refine dv 3 ?_
 refine s8s (.int .i64 (n.round + 1)) rfl rfl rfl (a9n rfl rfl (by have := fS.1.2.2.2.2.2.1; omega) (by have := fS.1.2.2.2.2.2.1; omega)) ?_
 refine dv 0 ?_
 refine x0x rfl rfl rfl (z6z ..) (dv 0 ?_)
 refine x0x rfl rfl rfl (y7y ..) (dc 2 (aI ?_ ?_))<;>intro j<;>try simp at j
 ·have fU : ¬ (n.up = true ∧ n.round + 1 ≤ r ∧ r ≤ 9999) := by (intro h; omega)
  refine dv 2 ?_
  refine rlB w2w a9k ?_
  refine dv 4 ?_
  (rw [d3q fK fU]; exact ⟨_, _, rfl, p7p rfl rfl rfl (c6w (.cl rfl .nil))⟩)
 have fU : n.up = true ∧ n.round + 1 ≤ r ∧ r ≤ 9999 := ⟨fUp, by omega⟩
 refine dv 15 ?_
 refine x0x rfl rfl rfl (b4i ..) (rlB w2w a9k ?_)
 refine x2x (id := 4) w2w a9k rfl (dv 5 fun K K' => ?_)
 refine a1b 4 7 12 3 1 rfl rfl rfl rfl rfl (a1b 4 8 13 3 1 rfl rfl rfl rfl rfl ?_)
 refine x5x (ι := Nat) (fun i γ1 => [(9, pI (i : Int))]) (fun i γ1 => [(12, ((γ1 12), .row 3 1 (((n.views.take i).map Vi.inc).map a6f))), (13, ((γ1 13), .row 3 1 (((n.views.take i).map Vi.version).map a6f))), (4, ((0 + 1), .box 79 [pI 3, pI n.id, pI 0, pI n.inc, pI 0, pI r, pI (b8d n), .ref 12 (γ1 12), .ref 13 (γ1 13), .pv (.slice none 0 0), .pv (.slice none 0 0)])), (5, ((γ1 5), .dead)), (6, ((γ1 6), .dead)), (7, ((γ1 7), .dead)), (8, ((γ1 8), .dead))]) (fun i => i ≤ 3) (fun i => 3 - i) (r3r [2, 4, 5, 7, 8] rfl) (a1c [0, 1, 2, 3, 9, 10, 11] rfl) 0 (by omega) [0, 0, 0, 0, 0, _, _, _, _, 0, 0, 0, _, _] x6x (HE.row rfl (by rw [List.take_zero]; rfl) (HE.row rfl (by rw [List.take_zero]; rfl) (HE.box rfl rfl (HE.kill rfl (HE.kill rfl (HE.kill rfl (HE.kill rfl HE.nil))))))) rfl fun i γ1 hi => ?_
 refine dc 4 (fun K K' => aS ?_ ?_)<;>intro j<;>try simp at j
 ·obtain rfl : i = n.views.length := by omega
  rw [List.take_length]
  refine dv 8 ?_
  (rw [e3r fK fU, show d9j n r = { d9j n r with g := b8d n } from by rw [c1n fK]; rfl]; exact ⟨_, _, rfl, p7p (n := { n with round := r, low := 41 }) rfl rfl rfl (.agg rfl (.cl rfl (.cl rfl (.cl rfl (.cl rfl (.cl rfl (.cl rfl (.cl rfl (.ref rfl (Le.ow_map _ (fun _ => rfl) (fun _ => rfl)) (.ref rfl (Le.ow_map _ (fun _ => rfl) (fun _ => rfl)) (.le rfl .nil (.le rfl .nil .nil))))))))))) (.cl rfl .nil))⟩)
 obtain ⟨v, hv⟩ := gE n.views i
 refine dv 12 fun K K' => ?_
 refine a9m (id := 5) a0d rfl q9q rfl rfl rfl rfl rfl ?_
 refine y6y (zs := ((n.views.take i).map Vi.inc ++ [v.inc]).map a6f) rfl rfl a0d rfl q9q rfl rfl rfl rfl (by rfl) (z8z _ _ _) (by (simp only [a0f, r7r, s3s, s6s, a0v, T3]; omega)) ?_
 refine dv 11 ?_
 refine a9m (id := 7) a0d rfl q9q rfl rfl rfl rfl rfl ?_
 refine y6y (zs := ((n.views.take i).map Vi.version ++ [v.version]).map a6f) rfl rfl a0d rfl q9q rfl rfl rfl rfl (by rfl) (z8z _ _ _) (by (simp only [a0f, r7r, s3s, s6s, a0v, T3]; omega)) ?_
 refine dv 4 ?_
 refine u6u rfl rfl rfl (dv 1 ?_)
 exact ⟨i + 1, ⟨by omega, by omega⟩, [0, 0, 0, 0, 0, _, _, _, _, 0, 0, 0, _, _], (Cov.cons' (t := 9) rfl (by rw [y1y (by omega) (by omega)]; rfl) Cov.nil), x6x, (HE.row rfl (by simp only [z7z hv, List.map_append, List.map_cons, List.map_nil]) (HE.row rfl (by simp only [z7z hv, List.map_append, List.map_cons, List.map_nil]) (HE.box rfl rfl (HE.kill rfl (HE.kill rfl (HE.kill rfl (HE.kill rfl HE.nil))))))), x4x, rfl⟩
end
section
theorem b8n (c : Bool) (l : La) (u : Int) (hok : a6e l = true) : a0p Tryz.prog 25 [.agg (r2r c l), .pv (.int .i64 u)] (.tup [.agg (r2r true (c1r u l)), a0g true (c1s u l), s0s true (c6o u l)]) := by
 refine pX Tryz.f25 [.agg (r2r true (c1r u l)), a0g true (c1s u l), s0s true (c6o u l)] 8 ?_
 obtain ⟨h1, h2⟩ := a2q hok
 have hlb := e8f hok
 refine dv 1 ?_
 refine y2y (id := 0) rfl rfl rfl (x2x (id := 1) a0u a9j rfl (dv 3 ?_))
 refine x9x (id := 2) v2v rfl z3z rfl (dv 2 ?_)
 refine x9x (id := 3) a0l rfl w6w rfl (dv 4 fun K K' => ?_)
 refine x0x rfl rfl rfl (a3o ..) (dv 1 ?_)
 refine a0z rfl (fun hc2 => ?_) (fun hc2 => ?_)
 ·simp [hok] at hc2
 try simp at hc2
 refine dv 6 ?_
 refine x2x (id := 4) a7j c8a rfl (dv 3 fun K K' => ?_)
 refine x5x (ι := Nat) (fun i γ1 => [(7, .ref 2 (γ1 2)), (8, .ref 3 (γ1 3)), (9, pI (i : Int))]) (fun i γ1 => [(2, ((γ1 2), .row 56 7 (((l.done.take i).flatMap Pa.sends).map z2z))), (3, ((γ1 3), .row 141 5 (((l.done.take i).flatMap Pa.outs).map r9r))), (4, ((0 + 1), .box 41 [pI (b3w l i).x, pI (b3w l i).y, pI (b3w l i).count])), (5, ((γ1 5), .dead)), (6, ((γ1 6), .dead))]) (fun i => i ≤ l.done.length ∧ (∀ (j : Nat) p, j < i → l.done[j]? = some p → p.ev.time < u)) (fun i => l.done.length - i) (r3r [1, 2, 4, 10] rfl) (a1c [0, 1, 7] rfl) 0 ⟨by omega, fun j p hj => by omega⟩ [0, 0, _, _, 0, _, _] x6x (HE.row rfl (by rfl) (HE.row rfl (by rfl) (HE.box rfl rfl (HE.kill rfl (HE.kill rfl HE.nil))))) rfl fun i γ1 hi => ?_
 obtain ⟨k1, k2⟩ := hi
 refine dc 8 (fun K K' => aS ?_ ?_)<;>intro h<;>try simp at h
 ·have hcut : c9h u l.done = i := d1l k1 k2 (fun q hq => by rw [List.getElem?_eq_none (by omega)] at hq; cases hq)
  refine dv 9 ?_
  refine a0z rfl (fun hc7 => ?_) (fun hc7 => ?_)
  ·simp [hok] at hc7
  try simp at hc7
  have hfs := b2f (f := Pa.sends) (m := 2) k1 fun p hp => (h2 p hp).1
  have hfo := b2f (f := Pa.outs) (m := 2) k1 fun p hp => (h2 p hp).2
  refine dv 7 ?_
  refine x0x rfl rfl rfl (a2r c l i l.done.length hlb.1 (by omega) hlb.1 hlb.2) ?_
  refine x2x (id := 7) a0u a9j rfl (dv 4 ?_)
  refine a0h rfl rfl a7j rfl rfl rfl rfl (s2s rfl) rfl ?_
  refine r1r 7 rfl rfl (fun _ => rfl) ?_
  refine r1r 8 rfl rfl (fun _ => rfl) ?_
  refine dv 3 ?_
  refine x0x rfl rfl rfl (a1d true _ (by omega)) ?_
  refine dv 1 ?_
  refine x0x rfl rfl rfl (a3z true _ (by omega)) ?_
  refine dv 4 ?_
  subst hcut
  rw [show c1r u l = ⟨l.proc, b3w l (c9h u l.done), (l.done.take l.done.length).drop (c9h u l.done)⟩ from by rw [List.take_length]; rfl]
  exact ⟨_, _, rfl, .agg rfl (.cl rfl (.cl rfl (.cl rfl (.cl rfl (.cl rfl .nil))))) (.cl rfl (.cl rfl .nil))⟩
 obtain ⟨p, hp⟩ := gE l.done i
 have hpb := h2 p (List.mem_of_getElem? hp)
 refine dc 10 (aS ?_ ?_)<;>intro hc6<;>try simp at hc6
 ·have hcut : c9h u l.done = i := by exact d1l k1 k2 (fun q hq => by rw [hp] at hq; cases hq; omega)
  have hfs := b2f (f := Pa.sends) (m := 2) k1 fun p hp => (h2 p hp).1
  have hfo := b2f (f := Pa.outs) (m := 2) k1 fun p hp => (h2 p hp).2
  refine dv 7 ?_
  refine x0x rfl rfl rfl (a2r c l i l.done.length hlb.1 (by omega) hlb.1 hlb.2) ?_
  refine x2x (id := 7) a0u a9j rfl (dv 4 ?_)
  refine a0h rfl rfl a7j rfl rfl rfl rfl (s2s rfl) rfl ?_
  refine r1r 7 rfl rfl (fun _ => rfl) ?_
  refine r1r 8 rfl rfl (fun _ => rfl) ?_
  refine dv 3 ?_
  refine x0x rfl rfl rfl (a1d true _ (by omega)) ?_
  refine dv 1 ?_
  refine x0x rfl rfl rfl (a3z true _ (by omega)) ?_
  refine dv 4 ?_
  subst hcut
  rw [show c1r u l = ⟨l.proc, b3w l (c9h u l.done), (l.done.take l.done.length).drop (c9h u l.done)⟩ from by rw [List.take_length]; rfl]
  exact ⟨_, _, rfl, .agg rfl (.cl rfl (.cl rfl (.cl rfl (.cl rfl (.cl rfl .nil))))) (.cl rfl (.cl rfl .nil))⟩
 have hlt : p.ev.time < u := hc6
 have hfs := b2f (f := Pa.sends) (m := 2) (show i ≤ l.done.length by omega) fun p hp => (h2 p hp).1
 have hfo := b2f (f := Pa.outs) (m := 2) (show i ≤ l.done.length by omega) fun p hp => (h2 p hp).2
 refine dv 8 ?_
 refine v9v (out := .agg (a1v p.after)) rfl a7j rfl ?_
 refine dv 9 ?_
 refine p2p (zs := ((l.done.take i).flatMap Pa.sends ++ p.sends).map z2z) rfl rfl v2v rfl z3z rfl rfl rfl (z9z (fun _ => rfl) _) (a7m _ _ _) (by (simp only [a0f, r7r, s3s, s6s, a0v, b2n, T56]; omega)) ?_
 refine dv 9 ?_
 refine p2p (zs := ((l.done.take i).flatMap Pa.outs ++ p.outs).map r9r) rfl rfl a0l rfl w6w rfl rfl rfl (z9z (fun _ => rfl) _) (a7m _ _ _) (by (simp only [a0f, r7r, s3s, s6s, a0v, b2n, T141]; omega)) ?_
 refine dv 3 ?_
 refine x7x (b := 1) rfl rfl (by omega) (dv 1 ?_)
 exact ⟨i + 1, ⟨⟨by omega, fun j q hj hq => by by_cases e : j = i; (subst e; rw [hp] at hq; cases hq; exact hlt); exact k2 j q (by omega) hq⟩, by omega⟩, [0, 0, _, _, 0, _, _], x6x, x6x, (HE.row rfl (by rw [a3f hp]) (HE.row rfl (by rw [a3f hp]) (HE.box rfl (by rw [c1q hp]; rfl) (HE.kill rfl (HE.kill rfl HE.nil))))), x4x, rfl⟩
end
section
theorem a9z (c : Bool) (n : Nd) (r g : Int) : a0p Tryz.prog 67 [.agg (u0u c n), .pv (.int .i64 r), .pv (.int .i64 g)] (.tup [.agg (u0u true (q3q n r g).1), .pv (.bool (q3q n r g).2)]) := by
 refine pX Tryz.f67 [.agg (u0u true (q3q n r g).1), .pv (.bool (q3q n r g).2)] 19 ?_
 refine dv 1 ?_
 refine y2y (id := 0) rfl rfl rfl (x2x (id := 1) u1u q2q rfl (dv 4 fun K K' => ?_))
 refine x0x rfl rfl rfl (w3w c n) (dc 1 (aI ?_ ?_))<;>intro hc2<;>try simp at hc2
 ·have fX : ¬ y4y n := a0x (by simpa using hc2)
  refine dv 1 ?_
  refine rlB u1u q2q ?_
  refine dv 3 ?_
  (rw [e3x fX]; exact ⟨_, _, rfl, b5g (.cl rfl .nil)⟩)
 have fK : y4y n := a0r.1 (by simpa using hc2)
 have fS := fK.1
 have fB := v6v fS
 have fV := fS.2.2.2.2.2.1
 have fb := b8c fS
 have fM0 := c1n fK
 have fL := c6p fS
 have fG := fS.1.2.2.1
 refine dv 3 ?_
 refine rlM [13, 14, 15] [_, _, _] (y0y c n fb) rfl rfl rfl ?_
 refine x2x (id := 2) u1u q2q rfl (dc 7 (fun K K' => aS ?_ ?_))<;>intro hg4<;>try simp at hg4
 ·have fU : ¬ b2g n r g := by (rintro ⟨m1, m2, m3, m4, m5, m6, m7, m8⟩; (simp_all; done))
  refine dv 40 ?_
  (rw [b0m fK fU]; exact ⟨_, _, rfl, p7p (n := n) rfl rfl rfl (.cl rfl .nil)⟩)
 have fUp : n.up = true := hg4
 refine dc 4 (aS ?_ ?_)<;>intro h<;>try simp at h
 ·have fU : ¬ b2g n r g := by (rintro ⟨m1, m2, m3, m4, m5, m6, m7, m8⟩; omega)
  refine dv 36 ?_
  (rw [b0m fK fU]; exact ⟨_, _, rfl, p7p (n := n) rfl rfl rfl (.cl rfl .nil)⟩)
 refine dc 6 (aS ?_ ?_)<;>intro h<;>try simp at h
 ·have fU : ¬ b2g n r g := by (rintro ⟨m1, m2, m3, m4, m5, m6, m7, m8⟩; omega)
  refine dv 30 ?_
  (rw [b0m fK fU]; exact ⟨_, _, rfl, p7p (n := n) rfl rfl rfl (.cl rfl .nil)⟩)
 refine dv 3 ?_
 refine s8s (.int .i64 (n.g + 1)) rfl rfl rfl (a9n rfl rfl (by omega) (by omega)) ?_
 refine dv 0 ?_
 refine x0x rfl rfl rfl (y7y ..) (dc 3 (aS ?_ ?_))<;>intro h<;>try simp at h
 ·have fU : ¬ b2g n r g := by (rintro ⟨m1, m2, m3, m4, m5, m6, m7, m8⟩; omega)
  refine dv 22 ?_
  (rw [b0m fK fU]; exact ⟨_, _, rfl, p7p (n := n) rfl rfl rfl (.cl rfl .nil)⟩)
 refine dc 6 (aS ?_ ?_)<;>intro h<;>try simp at h
 ·have fU : ¬ b2g n r g := by (rintro ⟨m1, m2, m3, m4, m5, m6, m7, m8⟩; omega)
  refine dv 16 ?_
  (rw [b0m fK fU]; exact ⟨_, _, rfl, p7p (n := n) rfl rfl rfl (.cl rfl .nil)⟩)
 refine dv 1 ?_
 refine x0x rfl rfl rfl (b4i c n) (dc 4 (aS ?_ ?_))<;>intro h<;>try simp at h
 ·have fU : ¬ b2g n r g := by (rintro ⟨m1, m2, m3, m4, m5, m6, m7, m8⟩; omega)
  refine dv 10 ?_
  (rw [b0m fK fU]; exact ⟨_, _, rfl, p7p (n := n) rfl rfl rfl (.cl rfl .nil)⟩)
 refine dv 2 ?_
 refine x0x rfl rfl rfl (z6z ..) (dc 2 (aI ?_ ?_))<;>intro h<;>try simp at h
 ·have fU : ¬ b2g n r g := by (rintro ⟨m1, m2, m3, m4, m5, m6, m7, m8⟩; omega)
  refine dv 5 ?_
  (rw [b0m fK fU]; exact ⟨_, _, rfl, p7p (n := n) rfl rfl rfl (.cl rfl .nil)⟩)
 have fM : b2g n r g := ⟨fUp, by omega, by omega, by omega, by omega, by omega, by omega, by omega⟩
 obtain ⟨k, hk, hk3, hkn⟩ := f1q fS
 have hkl := fS.2.2.2.2.2.2.1
 obtain ⟨kn, hkv⟩ := gE n.known k
 have hKk : n.known.set n.id.toNat g = n.known.set k g := by rw [hkn]
 refine dv 13 fun K K' => ?_
 refine x5x (ι := Nat) (fun i γ1 => [(9, a0g c (a3p n g i)), (10, s0s c (b0y n g i)), (11, pI (i : Int))]) (fun i γ1 => [(13, ((0 + 1), .row 44 5 ((b8e g n.lanes i).map (r2r true)))), (3, ((γ1 3), .dead)), (4, ((γ1 4), .dead)), (5, ((γ1 5), .dead)), (6, ((γ1 6), .dead)), (7, ((γ1 7), .dead)), (8, ((γ1 8), .dead)), (9, ((γ1 9), .dead))]) (fun i => i ≤ n.lanes.length) (fun i => n.lanes.length - i) (r3r [2, 3, 6, 8] rfl) (a1c [0, 1, 2, 10, 11, 12, 14, 15, 16, 17, 18] rfl) 0 (by omega) [0, 0, 0, _, _, _, _, _, _, _] (Cov.cons' (t := 9) rfl (by rw [d1m]) (Cov.cons' (t := 10) rfl (by rw [d1n]) (x8x 11 rfl Cov.nil))) (HE.row rfl (by rw [d5q]) (HE.kill rfl (HE.kill rfl (HE.kill rfl (HE.kill rfl (HE.kill rfl (HE.kill rfl (HE.kill rfl HE.nil)))))))) rfl fun i γ1 hi => ?_
 refine dc 7 (fun K K' => aI ?_ ?_)<;>intro h<;>try simp at h
 ·obtain ⟨l, hp⟩ := gE n.lanes i
  have hkt := c9i fS g (i + 1)
  rw [c1t hp, List.length_append] at hkt
  have hot := c9j fS g (i + 1)
  rw [c1u hp, List.length_append] at hot
  have hlt2 : i < (b8e g n.lanes i).length := by rw [d9m _ _ (by omega)]; omega
  have hll := fL l (List.mem_of_getElem? hp)
  refine dv 10 fun K K' => ?_
  refine x0x rfl rfl rfl (b8n c l g hll) (dv 4 ?_)
  refine x2x (id := 3) a0u a9j rfl (dv 8 ?_)
  refine z0z (j := i) rfl rfl a8q rfl a0u rfl rfl hlt2 ?_
  refine v4v (el' := c1r g l) rfl rfl a0u rfl rfl rfl (e3v hp) rfl (q4q rfl) rfl rfl ?_
  refine dv 1 ?_
  refine x9x (id := 4) v2v rfl z3z rfl (dv 1 ?_)
  refine p2p (zs := (a3p n g i).map z2z) rfl rfl v2v rfl z3z rfl rfl rfl (z9z (fun _ => rfl) _) rfl (by (simp only [a0f, r7r, s3s, s6s, a0v, T56]; omega)) ?_
  refine dv 1 ?_
  refine a1i v7v (zs := (a3p n g i ++ c1s g l).map z2z) rfl rfl v2v rfl z3z rfl rfl rfl (z9z (fun _ => rfl) _) (a7m _ _ _) (by (simp only [a0f, r7r, s3s, s6s, a0v, T56]; omega)) (Le.ow_map _ (fun _ => rfl) (fun _ => rfl)) ?_
  refine dv 2 ?_
  refine x9x (id := 7) a0l rfl w6w rfl (dv 1 ?_)
  refine p2p (zs := (b0y n g i).map r9r) rfl rfl a0l rfl w6w rfl rfl rfl (z9z (fun _ => rfl) _) rfl (by (simp only [a0f, r7r, s3s, s6s, a0v, T141]; omega)) ?_
  refine dv 1 ?_
  refine a1i v7v (zs := (b0y n g i ++ c6o g l).map r9r) rfl rfl a0l rfl w6w rfl rfl rfl (z9z (fun _ => rfl) _) (a7m _ _ _) (by (simp only [a0f, r7r, s3s, s6s, a0v, T141]; omega)) (Le.ow_map _ (fun _ => rfl) (fun _ => rfl)) ?_
  refine dv 1 ?_
  refine d7r 9 rfl (.le rfl (Le.low_map (c := c) (l := a3p n g i ++ c1s g l) (f := z2z) fun _ => rfl) .nil) ?_
  refine d7r 10 rfl (.le rfl (Le.low_map (c := c) (l := b0y n g i ++ c6o g l) (f := r9r) fun _ => rfl) .nil) ?_
  refine dv 2 ?_
  refine u6u rfl rfl rfl (dv 1 ?_)
  exact ⟨i + 1, ⟨by omega, by omega⟩, [0, 0, 0, _, _, _, _, _, _, _], (Cov.cons' (t := 9) rfl (by rw [c1t hp]; rfl) (Cov.cons' (t := 10) rfl (by rw [c1u hp]; rfl) (Cov.cons' (t := 11) rfl (by rw [y1y (by omega) (by omega)]; rfl) Cov.nil))), x6x, (HE.row rfl (by rw [d9n hp]) (HE.kill rfl (HE.kill rfl (HE.kill rfl (HE.kill rfl (HE.kill rfl (HE.kill rfl (HE.kill rfl HE.nil)))))))), x4x, rfl⟩
 obtain rfl : i = n.lanes.length := by omega
 have hkt := c9i fS g n.lanes.length
 have hot := c9j fS g n.lanes.length
 have hkq : ∀ e ∈ u5u (a3p n g n.lanes.length), okE e = true := fun e he => d9o fS ((b0i _ _).1 he)
 have hqs := a9r (a3p n g n.lanes.length)
 refine dv 11 ?_
 refine z0z (j := k) rfl (by rw [← hk]; rfl) a0d rfl q9q rfl rfl (z1z hkv) ?_
 refine b3c (el' := g) rfl rfl q9q rfl rfl rfl hkv rfl (by omega) (.val rfl rfl .nil) rfl rfl ?_
 refine dv 1 ?_
 refine x9x (id := 10) v2v rfl z3z rfl (dv 4 ?_)
 refine x0x rfl rfl rfl (a1d c _ (by omega)) ?_
 refine dv 5 fun K K' => ?_
 refine x5x (ι := Nat) (fun j γ2 => [(15, pI (j : Int))]) (fun j γ2 => [(10, ((γ2 10), .row 56 7 ((((u5u (a3p n g n.lanes.length)).take j).filter (c9k (n.known.set k g))).map z2z))), (2, ((0 + 1), .box 65 [pI n.id, .pv (.bool n.up), pI n.inc, pI g, .ref 13 (0 + 1), .ref 10 (γ2 10), s0s true n.outs, pI n.led, pI n.version, .ref 14 (0 + 1), .ref 15 (0 + 1), pI n.round, pI n.low])), (11, ((γ2 11), .dead)), (12, ((γ2 12), .dead))]) (fun j => j ≤ (u5u (a3p n g n.lanes.length)).length) (fun j => (u5u (a3p n g n.lanes.length)).length - j) (r3r [3, 6, 8, 9, 10] rfl) (a1c [0, 1, 3, 4, 5, 6, 7, 8, 9, 13, 14, 15, 16, 17, 18] rfl) 0 (by omega) [0, 0, 0, 0, 0, 0, 0, 0, 0, 0, _, _, _] x6x (HE.row rfl (by rw [List.take_zero]; rfl) (HE.box rfl rfl (HE.kill rfl (HE.kill rfl HE.nil)))) rfl fun j γ2 hi => ?_
 refine dc 6 (fun K K' => aS ?_ ?_)<;>intro h<;>try simp at h
 ·obtain rfl : j = (u5u (a3p n g n.lanes.length)).length := by omega
  refine dv 3 ?_
  refine x0x rfl rfl rfl (a3z c _ (by omega)) ?_
  refine dv 3 fun K K' => ?_
  refine b1w 10 (xs' := (a3s n g).kept.map z2z) rfl (by simp only [a3s, hKk, c6q, List.take_length]) ?_
  refine b1w 13 (xs' := (a3s n g).lanes.map (r2r true)) rfl (by rw [d9l]; rfl) ?_
  refine b1w 15 (xs' := (a3s n g).known.map a6f) rfl (by simp only [a3s, hKk]) ?_
  refine v3v (b := b8y true (a3s n g).lanes) 2 4 rfl rfl rfl (.ref rfl (Le.ow_map _ (fun _ => rfl) (fun _ => rfl)) .nil) rfl rfl rfl rfl ?_
  refine v3v (b := a0g true (a3s n g).kept) 2 5 rfl rfl rfl (.ref rfl (Le.ow_map _ (fun _ => rfl) (fun _ => rfl)) .nil) rfl rfl rfl rfl ?_
  refine v3v (b := c3a true n.views) 2 9 rfl rfl rfl (.ref rfl (Le.ow_map _ (fun _ => rfl) (fun _ => rfl)) .nil) rfl rfl rfl rfl ?_
  refine v3v (b := a5k true (a3s n g).known) 2 10 rfl rfl rfl (.ref rfl (Le.ow_map _ (fun _ => rfl) (fun _ => rfl)) .nil) rfl rfl rfl rfl ?_
  refine dv 2 ?_
  refine x0x rfl rfl rfl (w3w true (a3s n g)) ?_
  refine dc 1 (aI ?_ ?_)<;>intro hc21<;>try simp at hc21
  ·have fX2 : ¬ y4y (a3s n g) := a0x (by simpa using hc21)
   refine dv 2 ?_
   refine rlM [16, 17, 18] [_, _, _] (y0y c n fb) rfl rfl rfl ?_
   refine dv 3 ?_
   (rw [d3r fK fM, c1w fX2]; exact ⟨_, _, rfl, p7p (n := n) rfl rfl rfl (.cl rfl .nil)⟩)
  have fK2 : y4y (a3s n g) := a0r.1 (by simpa using hc21)
  have fb2 := b8c fK2.1
  refine dv 3 ?_
  refine rlM [16, 17, 18] [_, _, _] (y0y true (a3s n g) fb2) rfl rfl rfl ?_
  refine dv 3 ?_
  (rw [d3r fK fM, c1v fK2]; exact ⟨_, _, rfl, p7p (n := a3s n g) rfl rfl rfl (.cl rfl .nil)⟩)
 obtain ⟨e, he⟩ := gE (u5u (a3p n g n.lanes.length)) j
 obtain ⟨k2, v, hk2, hv, hw⟩ := e3w (kn := n.known.set k g) (hkq e (List.mem_of_getElem? he)) (by rw [List.length_set]; exact hkl)
 have hfl : (((u5u (a3p n g n.lanes.length)).take j).filter (c9k (n.known.set k g))).length ≤ 1000000 := Nat.le_trans (List.length_filter_le _ _) (by rw [List.length_take]; omega)
 refine dv 16 fun K K' => ?_
 refine x0x rfl rfl rfl (a1h ..) ?_
 refine z0z (j := k2) rfl (by rw [← hk2]; rfl) a0d rfl q9q rfl rfl (z1z hv) ?_
 refine dc 2 (aS ?_ ?_)<;>intro h<;>try simp at h
 ·have hwf : ¬ c9k (n.known.set k g) e = true := by rw [hw]; simp; omega
  refine dv 3 ?_
  refine u6u rfl rfl rfl (dv 1 ?_)
  exact ⟨j + 1, ⟨by omega, by omega⟩, [0, 0, 0, 0, 0, 0, 0, 0, 0, 0, _, _, _], (Cov.cons' (t := 15) rfl (by rw [y1y (by omega) (by omega)]; rfl) Cov.nil), x6x, (HE.row rfl (by rw [r6r he]; rw [if_neg hwf, List.append_nil]) (HE.box rfl rfl (HE.kill rfl (HE.kill rfl HE.nil)))), x4x, rfl⟩
 have hwt : c9k (n.known.set k g) e = true := by rw [hw]; exact decide_eq_true (by omega)
 refine dv 7 ?_
 refine y5y (id := 11) v2v rfl z3z rfl rfl rfl rfl rfl rfl ?_
 refine y6y (zs := (((u5u (a3p n g n.lanes.length)).take j).filter (c9k (n.known.set k g)) ++ [e]).map z2z) rfl rfl v2v rfl z3z rfl rfl rfl rfl (by rfl) (z8z _ _ _) (by (simp only [a0f, r7r, s3s, s6s, a0v, T56]; omega)) ?_
 refine dv 4 ?_
 refine u6u rfl rfl rfl (dv 1 ?_)
 exact ⟨j + 1, ⟨by omega, by omega⟩, [0, 0, 0, 0, 0, 0, 0, 0, 0, 0, _, _, _], (Cov.cons' (t := 15) rfl (by rw [y1y (by omega) (by omega)]; rfl) Cov.nil), x6x, (HE.row rfl (by rw [r6r he]; rw [if_pos hwt]) (HE.box rfl rfl (HE.kill rfl (HE.kill rfl HE.nil)))), x4x, rfl⟩
end
section
theorem e5d {α : Type} {l : List α} {i : Nat} {a : α} (h : l[i]? = some a) : l.set i a = l := by
 obtain ⟨h1, rfl⟩ := List.getElem?_eq_some_iff.1 h
 exact List.set_getElem_self h1
end
section
theorem c2r (c : Bool) (n : Nd) (f inc ver g : Int) (es : List Ev) : a0p Tryz.prog 70 [.agg (u0u c n), .pv (.int .i64 f), .pv (.int .i64 inc), .pv (.int .i64 ver), .pv (.int .i64 g), a0g c es] (.agg (u0u true (a3k n f inc ver g es))) := by
 refine pX Tryz.f70 [.agg (u0u true (a3k n f inc ver g es))] 12 ?_
 refine dv 1 ?_
 refine y2y (id := 0) rfl rfl rfl (x2x (id := 1) u1u q2q rfl (dv 3 fun K K' => ?_))
 refine x0x rfl rfl rfl (w3w c n) (dc 1 (aI ?_ ?_))<;>intro hc2<;>try simp at hc2
 ·have fX : ¬ y4y n := a0x (by simpa using hc2)
  refine dv 1 ?_
  refine rlB u1u q2q ?_
  refine dv 2 ?_
  (rw [f1s fX]; exact ⟨_, _, rfl, e0f⟩)
 have fK : y4y n := a0r.1 (by simpa using hc2)
 have fS := fK.1
 have fB := v6v fS
 have fV := fS.2.2.2.2.2.1
 have fQ := fS.2.2.2.2.2.2.1
 have fb := b8c fS
 refine dv 3 ?_
 refine rlM [6, 7, 8] [_, _, _] (y0y c n fb) rfl rfl rfl ?_
 refine x2x (id := 2) u1u q2q rfl (dc 7 (fun K K' => aS ?_ ?_))<;>intro hg4<;>try simp at hg4
 ·have fU : ¬ a9t n f inc ver g es := by (rintro ⟨m1, m2, m3, m4, m5, m6, m7, m8, m9⟩; (simp_all; done))
  refine dv 37 ?_
  (rw [b6u fK fU]; exact ⟨_, _, rfl, b5f (n := n) rfl rfl rfl⟩)
 have fUp : n.up = true := hg4
 refine dv 1 ?_
 refine x0x rfl rfl rfl (y7y ..) (dc 3 (aS ?_ ?_))<;>intro h<;>try simp at h
 ·have fU : ¬ a9t n f inc ver g es := by (rintro ⟨m1, m2, m3, m4, m5, m6, m7, m8, m9⟩; omega)
  refine dv 32 ?_
  (rw [b6u fK fU]; exact ⟨_, _, rfl, b5f (n := n) rfl rfl rfl⟩)
 refine dc 6 (aS ?_ ?_)<;>intro hg6<;>try simp at hg6
 ·have fU : ¬ a9t n f inc ver g es := by (rintro ⟨m1, m2, m3, m4, m5, m6, m7, m8, m9⟩; omega)
  refine dv 26 ?_
  (rw [b6u fK fU]; exact ⟨_, _, rfl, b5f (n := n) rfl rfl rfl⟩)
 have f4 : ¬ f = n.id := hg6
 refine dv 3 ?_
 refine rlB a0c a9l ?_
 refine dv 0 ?_
 refine x0x rfl rfl rfl (b1a c ⟨inc, ver, es⟩) ?_
 refine dc 3 (aS ?_ ?_)<;>intro hg7<;>try simp at hg7
 ·have fvi : ¬ d3j ⟨inc, ver, es⟩ := a0x (by simpa using hg7)
  have fU : ¬ a9t n f inc ver g es := by (rintro ⟨m1, m2, m3, m4, m5, m6, m7, m8, m9⟩; exact fvi ⟨⟨by show 0 ≤ inc; omega, m5.2⟩, m6, m8⟩)
  refine dv 18 ?_
  (rw [b6u fK fU]; exact ⟨_, _, rfl, b5f (n := n) rfl rfl rfl⟩)
 have fvi : d3j ⟨inc, ver, es⟩ := a0r.1 (by simpa using hg7)
 have fv1 := fvi.1
 have fv2 := fvi.2.1
 have fv3 : a7o okE a2e es 100 = true := fvi.2.2
 dsimp only at fv1 fv2
 refine dc 4 (aS ?_ ?_)<;>intro h<;>try simp at h
 ·have fU : ¬ a9t n f inc ver g es := by (rintro ⟨m1, m2, m3, m4, m5, m6, m7, m8, m9⟩; omega)
  refine dv 14 ?_
  (rw [b6u fK fU]; exact ⟨_, _, rfl, b5f (n := n) rfl rfl rfl⟩)
 refine dv 1 ?_
 refine x0x rfl rfl rfl (y7y ..) (dc 3 (aS ?_ ?_))<;>intro h<;>try simp at h
 ·have fU : ¬ a9t n f inc ver g es := by (rintro ⟨m1, m2, m3, m4, m5, m6, m7, m8, m9⟩; omega)
  refine dv 9 ?_
  (rw [b6u fK fU]; exact ⟨_, _, rfl, b5f (n := n) rfl rfl rfl⟩)
 refine dv 2 ?_
 refine x0x rfl rfl rfl (z6z ..) (dc 2 (aI ?_ ?_))<;>intro h<;>try simp at h
 ·have fU : ¬ a9t n f inc ver g es := by (rintro ⟨m1, m2, m3, m4, m5, m6, m7, m8, m9⟩; omega)
  refine dv 4 ?_
  (rw [b6u fK fU]; exact ⟨_, _, rfl, b5f (n := n) rfl rfl rfl⟩)
 refine dv 5 fun K K' => ?_
 refine w1w 5 rfl fun hlen => ?_
 refine x5x (ι := Nat) (fun i γ1 => [(14, pI (i : Int))]) (fun i γ1 => []) (fun i => i ≤ es.length ∧ c7o es (fun _ e => s4s e.to = n.id ∧ (e.from' = -1 ∨ s4s e.from' = f)) i) (fun i => es.length - i) (r3r [1, 2, 3, 4, 5, 6, 12, 13] rfl) (a1c [0, 1, 2, 3, 4, 5, 6, 7, 8, 9, 10, 11] rfl) 0 ⟨by omega, a1f⟩ [] x6x x4x rfl fun i γ1 hi => ?_
 obtain ⟨k1, k2⟩ := hi
 refine dc 6 (fun K K' => aI ?_ ?_)<;>intro h<;>try simp at h
 ·obtain ⟨e, he⟩ := gE es i
  have heo : b9c e := of_decide_eq_true ((q1q fv3).2 e (List.mem_of_getElem? he))
  have heb := heo.2.2.1
  refine dv 9 fun K K' => ?_
  refine x0x rfl rfl rfl (a1h ..) (dc 4 (aS ?_ ?_))<;>intro hg15<;>try simp at hg15
  ·have fE : ¬ (s4s e.to = n.id ∧ (e.from' = -1 ∨ s4s e.from' = f)) := fun q => (by have := q.1; omega)
   refine dv 17 ?_
   have fU : ¬ a9t n f inc ver g es := fun q => fE (q.2.2.2.2.2.2.2.2 e (List.mem_of_getElem? he))
   refine dv 4 ?_
   (rw [b6u fK fU]; exact ⟨_, _, rfl, b5f (n := n) rfl rfl rfl⟩)
  have e1 : s4s e.to = n.id := hg15
  refine dc 7 (aS ?_ ?_)<;>intro h<;>try simp at h
  ·have hE : s4s e.to = n.id ∧ (e.from' = -1 ∨ s4s e.from' = f) := ⟨e1, .inl (by omega)⟩
   refine dv 13 ?_
   refine u6u rfl rfl rfl (dv 1 ?_)
   exact ⟨i + 1, ⟨⟨by omega, r5r k2 he hE⟩, by omega⟩, [], (Cov.cons' (t := 14) rfl (by rw [y1y (by omega) (by omega)]; rfl) Cov.nil), x6x, x4x, x4x, rfl⟩
  refine dv 5 ?_
  refine x0x rfl rfl rfl (a1h ..) (dc 4 (aS ?_ ?_))<;>intro hc17<;>try simp at hc17
  ·have hE : s4s e.to = n.id ∧ (e.from' = -1 ∨ s4s e.from' = f) := ⟨e1, .inr hc17⟩
   refine dv 3 ?_
   refine u6u rfl rfl rfl (dv 1 ?_)
   exact ⟨i + 1, ⟨⟨by omega, r5r k2 he hE⟩, by omega⟩, [], (Cov.cons' (t := 14) rfl (by rw [y1y (by omega) (by omega)]; rfl) Cov.nil), x6x, x4x, x4x, rfl⟩
  have fE : ¬ (s4s e.to = n.id ∧ (e.from' = -1 ∨ s4s e.from' = f)) := by (rintro ⟨q1, q2 | q2⟩ <;> omega)
  have fU : ¬ a9t n f inc ver g es := fun q => fE (q.2.2.2.2.2.2.2.2 e (List.mem_of_getElem? he))
  refine dv 4 ?_
  (rw [b6u fK fU]; exact ⟨_, _, rfl, b5f (n := n) rfl rfl rfl⟩)
 have hall := a2v k2 (by omega)
 have fH : a9t n f inc ver g es := ⟨fUp, by omega, by omega, f4, by omega, by omega, by omega, fv3, fun e he => by obtain ⟨i, hi⟩ := List.getElem?_of_mem he; exact hall i e hi⟩
 obtain ⟨k, rfl⟩ : ∃ k : Nat, f = (k : Int) := ⟨f.toNat, by have := fH.2.2.1; omega⟩
 have hk3 : k < 3 := by have := fH.2.2.1; omega
 obtain ⟨kn, hkn⟩ := gE n.known k
 obtain ⟨v, hv⟩ := gE n.views k
 have hes : es.length ≤ 100 := by have := (q1q fH.2.2.2.2.2.2.2.1).1; omega
 obtain ⟨M, hM⟩ : ∃ M, M = b5e n k inc ver g es := ⟨_, rfl⟩
 have hv9 : n.version ≤ 9998 := by have := fH.2.1; omega
 have hv0 := fS.1.2.2.2.2.1.1
 refine dv 1 ?_
 refine p9p (ι := Unit) (fun _i γ2 => []) (fun _i γ2 => [(8, ((0 + 1), .row 3 1 ((n.known.set k (max kn g)).map a6f)))]) (fun _i => True) (r3r [1, 2, 3, 5, 6, 12, 13] rfl) (a1c [0, 1, 2, 3, 4, 5, 6, 7, 9, 10, 11] rfl) ?_ fun _i γ2 hi => ?_
 ·refine dv 5 ?_
  refine z0z (j := k) rfl rfl a0d rfl q9q rfl rfl (z1z hkn) ?_
  refine dc 2 (aS ?_ ?_)<;>intro h<;>try simp at h
  ·have hmx : max kn g = kn := by omega
   refine dv 1 ?_
   exact ⟨(), trivial, [], x6x, x6x, (HE.row rfl (by rw [hmx, e5d hkn]) HE.nil), x4x, rfl⟩
  have hmx : max kn g = g := by omega
  refine dv 5 ?_
  refine z0z (j := k) rfl rfl a0d rfl q9q rfl rfl (z1z hkn) ?_
  refine b3c (el' := g) rfl rfl q9q rfl rfl rfl hkn rfl (by omega) (.val rfl rfl .nil) rfl rfl ?_
  exact ⟨(), trivial, [], x6x, x6x, (HE.row rfl (by (rw [hmx]; done)) HE.nil), x4x, rfl⟩
 ·try dsimp only [b1n, b1o]
  refine dv 6 ?_
  refine x2x (id := 3) a0c a9l rfl (dv 1 ?_)
  refine p9p (ι := Unit) (fun _i γ3 => []) (fun _i γ3 => [(2, ((0 + 1), .box 65 [pI M.id, .pv (.bool M.up), pI M.inc, pI M.g, .ref 6 (0 + 1), a0g true M.kept, s0s true M.outs, pI M.led, pI M.version, .ref 7 (0 + 1), .ref 8 (0 + 1), pI M.round, pI M.low])), (6, ((0 + 1), .row 44 5 ((M.lanes).map (r2r true)))), (7, ((0 + 1), .row 190 3 ((M.views).map (a3x true)))), (8, ((0 + 1), .row 3 1 (M.known.map a6f))), (4, ((γ3 4), .dead)), (5, ((γ3 5), .dead))]) (fun _i => True) (r3r [6, 12, 13] rfl) (a1c [0, 1, 3, 9, 10, 11] rfl) ?_ fun _i γ3 hi => ?_
  ·refine dc 6 (aS ?_ ?_)<;>intro h<;>try simp at h
   ·refine dv 11 ?_
    have hL : c6v v inc ver := .inl (by omega)
    refine dv 6 ?_
    refine x0x rfl rfl rfl (b1e c v.events es n.g) (dc 7 (fun K K' => aS ?_ ?_))<;>intro h<;>try simp at h
    ·have hlow : n.low = M.low := by rw [hM, a1r hv hkn hL]; show _ = chg n.g v.events (chg n.g es n.low v.events) es; rw [b9s n.g v.events es (m := n.low) (by have := fS.1.2.2.2.2.2.2; omega)]; omega
     refine dv 7 ?_
     refine x9x (id := 4) v2v rfl z3z rfl (dv 1 ?_)
     refine a1i v7v (zs := es.map z2z) rfl rfl v2v rfl z3z rfl rfl rfl (z9z (fun _ => rfl) _) rfl (by simp only [a0f, T56]; omega) (Le.ow_map _ (fun _ => rfl) (fun _ => rfl)) ?_
     refine rlB a0c a9l ?_
     refine z0z (j := k) rfl rfl b1g rfl a0c rfl rfl (z1z hv) ?_
     refine v4v (el' := ⟨inc, ver, es⟩) rfl rfl a0c rfl rfl rfl hv rfl (q4q rfl) rfl rfl ?_
     refine dv 0 ?_
     exact ⟨(), trivial, [0, 0, 0, 0, _, _], x6x, x6x, (HE.box rfl (by rw [← hlow]; (rw [hM, a1r hv hkn hL] <;> rfl)) (HE.row rfl (by (rw [hM, a1r hv hkn hL] <;> rfl)) (HE.row rfl (by (rw [hM, a1r hv hkn hL] <;> rfl)) (HE.row rfl (by (rw [hM, a1r hv hkn hL] <;> rfl)) (HE.kill rfl (HE.kill rfl HE.nil)))))), x4x, rfl⟩
    have hlow : chg n.g v.events (chg n.g es 41 v.events) es = M.low := by rw [hM, a1r hv hkn hL]; show _ = chg n.g v.events (chg n.g es n.low v.events) es; rw [b9s n.g v.events es (m := n.low) (by have := fS.1.2.2.2.2.2.2; omega)]; omega
    refine dv 10 ?_
    refine x9x (id := 4) v2v rfl z3z rfl (dv 1 ?_)
    refine a1i v7v (zs := es.map z2z) rfl rfl v2v rfl z3z rfl rfl rfl (z9z (fun _ => rfl) _) rfl (by simp only [a0f, T56]; omega) (Le.ow_map _ (fun _ => rfl) (fun _ => rfl)) ?_
    refine rlB a0c a9l ?_
    refine z0z (j := k) rfl rfl b1g rfl a0c rfl rfl (z1z hv) ?_
    refine v4v (el' := ⟨inc, ver, es⟩) rfl rfl a0c rfl rfl rfl hv rfl (q4q rfl) rfl rfl ?_
    refine dv 0 ?_
    exact ⟨(), trivial, [0, 0, 0, 0, _, _], x6x, x6x, (HE.box rfl (by rw [← hlow]; (rw [hM, a1r hv hkn hL] <;> rfl)) (HE.row rfl (by (rw [hM, a1r hv hkn hL] <;> rfl)) (HE.row rfl (by (rw [hM, a1r hv hkn hL] <;> rfl)) (HE.row rfl (by (rw [hM, a1r hv hkn hL] <;> rfl)) (HE.kill rfl (HE.kill rfl HE.nil)))))), x4x, rfl⟩
   refine dc 5 (aS ?_ ?_)<;>intro h<;>try simp at h
   ·refine dv 6 ?_
    have hL : ¬ c6v v inc ver := by rintro (q | ⟨q1, q2⟩) <;> omega
    have hlow : n.low = M.low := by rw [hM, a8u hv hkn hL]
    refine dv 1 ?_
    exact ⟨(), trivial, [0, 0, 0, 0, _, _], x6x, x6x, (HE.box rfl (by rw [← hlow]; (rw [hM, a8u hv hkn hL] <;> rfl)) (HE.row rfl (by (rw [hM, a8u hv hkn hL] <;> rfl)) (HE.row rfl (by (rw [hM, a8u hv hkn hL] <;> rfl)) (HE.row rfl (by (rw [hM, a8u hv hkn hL] <;> rfl)) (HE.kill rfl (HE.kill rfl HE.nil)))))), x4x, rfl⟩
   refine dc 6 (aS ?_ ?_)<;>intro h<;>try simp at h
   ·have hL : ¬ c6v v inc ver := by rintro (q | ⟨q1, q2⟩) <;> omega
    have hlow : n.low = M.low := by rw [hM, a8u hv hkn hL]
    refine dv 1 ?_
    exact ⟨(), trivial, [0, 0, 0, 0, _, _], x6x, x6x, (HE.box rfl (by rw [← hlow]; (rw [hM, a8u hv hkn hL] <;> rfl)) (HE.row rfl (by (rw [hM, a8u hv hkn hL] <;> rfl)) (HE.row rfl (by (rw [hM, a8u hv hkn hL] <;> rfl)) (HE.row rfl (by (rw [hM, a8u hv hkn hL] <;> rfl)) (HE.kill rfl (HE.kill rfl HE.nil)))))), x4x, rfl⟩
   have hL : c6v v inc ver := .inr ⟨by omega, by omega⟩
   refine dv 6 ?_
   refine x0x rfl rfl rfl (b1e c v.events es n.g) (dc 7 (fun K K' => aS ?_ ?_))<;>intro h<;>try simp at h
   ·have hlow : n.low = M.low := by rw [hM, a1r hv hkn hL]; show _ = chg n.g v.events (chg n.g es n.low v.events) es; rw [b9s n.g v.events es (m := n.low) (by have := fS.1.2.2.2.2.2.2; omega)]; omega
    refine dv 7 ?_
    refine x9x (id := 4) v2v rfl z3z rfl (dv 1 ?_)
    refine a1i v7v (zs := es.map z2z) rfl rfl v2v rfl z3z rfl rfl rfl (z9z (fun _ => rfl) _) rfl (by simp only [a0f, T56]; omega) (Le.ow_map _ (fun _ => rfl) (fun _ => rfl)) ?_
    refine rlB a0c a9l ?_
    refine z0z (j := k) rfl rfl b1g rfl a0c rfl rfl (z1z hv) ?_
    refine v4v (el' := ⟨inc, ver, es⟩) rfl rfl a0c rfl rfl rfl hv rfl (q4q rfl) rfl rfl ?_
    refine dv 0 ?_
    exact ⟨(), trivial, [0, 0, 0, 0, _, _], x6x, x6x, (HE.box rfl (by rw [← hlow]; (rw [hM, a1r hv hkn hL] <;> rfl)) (HE.row rfl (by (rw [hM, a1r hv hkn hL] <;> rfl)) (HE.row rfl (by (rw [hM, a1r hv hkn hL] <;> rfl)) (HE.row rfl (by (rw [hM, a1r hv hkn hL] <;> rfl)) (HE.kill rfl (HE.kill rfl HE.nil)))))), x4x, rfl⟩
   have hlow : chg n.g v.events (chg n.g es 41 v.events) es = M.low := by rw [hM, a1r hv hkn hL]; show _ = chg n.g v.events (chg n.g es n.low v.events) es; rw [b9s n.g v.events es (m := n.low) (by have := fS.1.2.2.2.2.2.2; omega)]; omega
   refine dv 10 ?_
   refine x9x (id := 4) v2v rfl z3z rfl (dv 1 ?_)
   refine a1i v7v (zs := es.map z2z) rfl rfl v2v rfl z3z rfl rfl rfl (z9z (fun _ => rfl) _) rfl (by simp only [a0f, T56]; omega) (Le.ow_map _ (fun _ => rfl) (fun _ => rfl)) ?_
   refine rlB a0c a9l ?_
   refine z0z (j := k) rfl rfl b1g rfl a0c rfl rfl (z1z hv) ?_
   refine v4v (el' := ⟨inc, ver, es⟩) rfl rfl a0c rfl rfl rfl hv rfl (q4q rfl) rfl rfl ?_
   refine dv 0 ?_
   exact ⟨(), trivial, [0, 0, 0, 0, _, _], x6x, x6x, (HE.box rfl (by rw [← hlow]; (rw [hM, a1r hv hkn hL] <;> rfl)) (HE.row rfl (by (rw [hM, a1r hv hkn hL] <;> rfl)) (HE.row rfl (by (rw [hM, a1r hv hkn hL] <;> rfl)) (HE.row rfl (by (rw [hM, a1r hv hkn hL] <;> rfl)) (HE.kill rfl (HE.kill rfl HE.nil)))))), x4x, rfl⟩
  ·try dsimp only [b1n, b1o]
   obtain ⟨w1, w2, w3⟩ := d3v n k inc ver g es
   rw [← hM] at w1 w2 w3
   have hwM : wk M := by rw [hM]; exact e4b (e3y fS) hes
   have hpcM : M.lanes.length = (p4p M.id 4).length := by rw [w1, w3]; exact fS.2.2.2.2.1
   have hwA : wk (nl M (q8q M M.lanes)) := c6u _ (Nat.le_refl _) hwM
   have hLA : (q8q M M.lanes).length ≤ 4 := hwA.1
   refine dv 3 ?_
   refine rlM [6, 7, 8] [_, _, _] (b2v M hwM) rfl rfl rfl ?_
   refine rlM [6, 7, 8] [_, _, _] (b1f c n (nl M (q8q M M.lanes)) (e3y fS) hwA w1.symm ⟨by omega, by omega⟩) rfl rfl rfl ?_
   refine dv 2 fun K K' => ?_
   refine v3v (b := b8y true (a8t n M).lanes) 2 4 rfl rfl rfl (.ref rfl (Le.ow_map _ (fun _ => rfl) (fun _ => rfl)) .nil) rfl rfl rfl rfl ?_
   refine v3v (b := c3a true (a8t n M).views) 2 9 rfl rfl rfl (.ref rfl (Le.ow_map _ (fun _ => rfl) (fun _ => rfl)) .nil) rfl rfl rfl rfl ?_
   refine v3v (b := a5k true (a8t n M).known) 2 10 rfl rfl rfl (.ref rfl (Le.ow_map _ (fun _ => rfl) (fun _ => rfl)) .nil) rfl rfl rfl rfl ?_
   refine dv 2 ?_
   refine x0x rfl rfl rfl (w3w true (a8t n M)) ?_
   refine dc 1 (aI ?_ ?_)<;>intro hc31<;>try simp at hc31
   ·have fX2 : ¬ y4y (a8t n M) := a0x (by simpa using hc31)
    refine dv 2 ?_
    refine rlM [9, 10, 11] [_, _, _] (y0y c n fb) rfl rfl rfl ?_
    refine dv 2 ?_
    (rw [e6g fK fH, ← hM, c1w fX2]; exact ⟨_, _, rfl, b5f (n := n) rfl rfl rfl⟩)
   have fK2 : y4y (a8t n M) := a0r.1 (by simpa using hc31)
   have fb2 := b8c fK2.1
   refine dv 3 ?_
   refine rlM [9, 10, 11] [_, _, _] (y0y true (a8t n M) fb2) rfl rfl rfl ?_
   refine dv 2 ?_
   (rw [e6g fK fH, ← hM, c1v fK2]; exact ⟨_, _, rfl, b5f (n := a8t n M) rfl rfl rfl⟩)
end
end Go.Proofs.YtlgknoapdbpojaaGreat.Am
