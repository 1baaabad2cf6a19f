/- Part 6 of the texts that the proof of LawFnNodeAgain leans on, merged by program. -/
import Derived.Test.YtlgknoapdbpojaaGreatKa5
set_option linter.unusedVariables false
set_option linter.unusedSimpArgs false
set_option maxHeartbeats 4000000
set_option autoImplicit true
set_option relaxedAutoImplicit true
namespace Go.Proofs.YtlgknoapdbpojaaGreat.Am
open Go Go.RowKit
section
theorem c7i (c : Bool) (n0 n : Nd) (h0 : cNd n0 ≤ 1048576) (hlen : n.lanes.length ≤ 1048576) (hN : ∀ (i : Nat) l, n.lanes[i]? = some l → (q1q n.id 4)[i]? = some l.proc) (hv3 : n.views.length = 3) : Meth Tryz.prog 166 10 [0, 1, 2, 3, 4] [.agg (u2u c n0), .ptr 4 0 0] [(0, (0, .row 41 3 ((n.lanes).map fun l => s1s l.base))), (1, (0, .row 42 1 ((n.lanes).map fun l => [a6e c l.done]))), (2, (0, .map (b0k c n.views))), (3, (0, .row 3 1 (n.known.map a2w))), (4, (0, .box 164 [pI n.id, pI n.inc, pI n.g, pI n.led, .ref 0 0, q2q c n.kept, r0r c n.outs, .pv (.bool n.up), .ref 1 0, pI n.version, .mp 2 0, .ref 3 0, pI n.round, pI n.low])), (5, (0, .dead)), (6, (0, .dead)), (7, (0, .dead)), (8, (0, .dead)), (9, (0, .dead))] (.tup [.agg [pI (s7s n0 n).1.id, .pv (.bool (s7s n0 n).1.up), pI (s7s n0 n).1.inc, pI (s7s n0 n).1.g, .ref 5 0, .ref 6 0, .ref 7 0, pI (s7s n0 n).1.led, pI (s7s n0 n).1.version, .ref 8 0, .ref 9 0, pI (s7s n0 n).1.round, pI (s7s n0 n).1.low], .pv (.bool ((s7s n0 n).2))]) [(5, (0, .row 44 5 ((s7s n0 n).1.lanes.map a9j))), (6, (0, .row 56 7 ((s7s n0 n).1.kept.map y9y))), (7, (0, .row 141 5 ((s7s n0 n).1.outs.map q5q))), (8, (0, .row 190 3 ((s7s n0 n).1.views.map a9k))), (9, (0, .row 3 1 ((s7s n0 n).1.known.map a2w)))] := by
 refine p3p v4v (fn := Tryz.f166) (by kernel_rfl) (by kernel_rfl) rfl (O0 := [.agg [pI (s7s n0 n).1.id, .pv (.bool (s7s n0 n).1.up), pI (s7s n0 n).1.inc, pI (s7s n0 n).1.g, .ref 5 0, .ref 6 0, .ref 7 0, pI (s7s n0 n).1.led, pI (s7s n0 n).1.version, .ref 8 0, .ref 9 0, pI (s7s n0 n).1.round, pI (s7s n0 n).1.low], .pv (.bool ((s7s n0 n).2))]) 10 5 (s0s rfl) (by rfl) (by repeat (first | exact BndH.nil | refine BndH.dead ?_ | refine BndH.box rfl ?_ | refine BndH.row (w1w fun _ => rfl) ?_ | refine BndH.map (a1g _ _) ?_ )) (by repeat (first | exact BndH.nil | refine BndH.row (w1w fun _ => rfl) ?_ )) (by rfl) fun γ => ?_
 show Ex Tryz.prog _ _ [(0, .agg (u2u c n0)), (1, .ptr 4 (γ 4) 0)] [(0, ((γ 0), .row 41 3 ((n.lanes).map fun l => s1s l.base))), (1, ((γ 1), .row 42 1 ((n.lanes).map fun l => [a6e c l.done]))), (2, ((γ 2), .map (b0k c n.views))), (3, ((γ 3), .row 3 1 (n.known.map a2w))), (4, ((γ 4), .box 164 [pI n.id, pI n.inc, pI n.g, pI n.led, .ref 0 (γ 0), q2q c n.kept, r0r c n.outs, .pv (.bool n.up), .ref 1 (γ 1), pI n.version, .mp 2 (γ 2), .ref 3 (γ 3), pI n.round, pI n.low])), (5, ((γ 5), .dead)), (6, ((γ 6), .dead)), (7, ((γ 7), .dead)), (8, ((γ 8), .dead)), (9, ((γ 9), .dead)), (14, (0, .dead)), (13, (0, .dead)), (12, (0, .dead)), (11, (0, .dead)), (10, (0, .dead))] _
 refine dv 1 ?_
 refine y0y (id := 10) rfl rfl rfl (x3x (id := 11) v0v q0q rfl (dv 3 ?_))
 refine rlM [0, 1, 2, 3, 4, 13, 14] [_, _, _, _, _, _, _] (b9z c n hlen hN hv3) rfl rfl rfl ?_
 refine x3x (id := 12) v0v q0q rfl (dv 4 fun K K' => ?_)
 refine b4a rfl rfl rfl (c4z rfl rfl rfl .nil) (b9y false n) (.pv _) ?_
 refine dc 1 (aI ?_ ?_)<;>intro hc2<;>try simp at hc2
 ·have fX : ¬ y5y n := a1o (by simpa using hc2)
  refine dv 2 ?_
  refine rlM [5, 6, 7, 8, 9] [_, _, _, _, _] (a9u c n0 h0) rfl rfl rfl ?_
  refine dv 2 ?_
  rw [b4o fX]
  refine dv 1 ?_
  exact ⟨[γ 0, γ 1, γ 2, γ 3, γ 4, _, _, _, _, _], rfl, rfl, HE.row rfl rfl (HE.row rfl rfl (HE.row rfl rfl (HE.row rfl rfl (HE.row rfl rfl ((a0o [0, 1, 2, 3, 4] rfl))))))⟩
 have fK : y5y n := a1e.1 (by simpa using hc2)
 refine dv 3 ?_
 refine e6y [5, 6, 7, 8, 9] [_, _, _, _, _] (a9u false n (by have := w7w fK.1; omega)) rfl rfl rfl (LendM.base (c4z rfl rfl rfl .nil)) rfl (by decide) rfl rfl f3q (by (simp only [pI, a2f, a2h, c0f, gl, nx, a6x, Nat.beq]; rfl)) (by (simp only [pI, a2f, a2h, c0f, gl, nx, a6x, Nat.beq]; rfl)) rfl rfl (f5a rfl) (by repeat (first | exact StrH.nil | refine StrH.dead ?_)) (f7r .nil) ?_
 refine dv 2 ?_
 rw [b1s fK]
 refine dv 1 ?_
 exact ⟨[γ 0, γ 1, γ 2, γ 3, γ 4, _, _, _, _, _], rfl, rfl, HE.row rfl rfl (HE.row rfl rfl (HE.row rfl rfl (HE.row rfl rfl (HE.row rfl rfl ((a0o [0, 1, 2, 3, 4] rfl))))))⟩
end
section
theorem a5b (c : Bool) (l : List Ev) (x : Ev) : a0q Tryz.prog 292 [q2q c l, .agg (y9y x)] (.pv (.int .i64 (d9x x l))) := by
 refine pX Tryz.f292 [.pv (.int .i64 (d9x x l))] 1 ?_
 refine u0u 0 rfl fun hlen => ?_
 refine dv 1 ?_
 refine y0y (id := 0) rfl rfl rfl (dv 7 fun K K' => ?_)
 refine x4x (ι := Nat) (fun i γ1 => [(8, pI (i : Int))]) (fun i γ1 => []) (fun i => i ≤ l.length ∧ ¬ x ∈ l.take i) (fun i => l.length - i) (q8q [0, 3, 7] rfl) (u9u 0 rfl HE.nil) 0 ⟨by omega, by simp⟩ [] x6x x5x rfl fun i γ1 hi => ?_
 obtain ⟨k1, k2⟩ := hi
 refine dc 3 (fun K K' => aS ?_ ?_)<;>intro j<;>try simp at j
 ·obtain rfl : i = l.length := by omega
  rw [List.take_length] at k2
  refine dv 4 ?_
  refine x2x rfl ?_ rfl
  exact congrArg (fun v : Int => [AV.pv (.int .i64 v)]) (d5b k2).symm
 obtain ⟨y, hy⟩ := gE l i
 refine dv 12 fun K K' => ?_
 refine a7i rfl rfl (by intro a c h; cases h) (.inl rfl) (e6b _ _ _ _) ?_
 refine dc 0 (aS ?_ ?_)<;>intro hc5<;>try simp at hc5
 ·have hne : ¬ x = y := by simpa [a1u] using hc5
  refine dv 2 ?_
  refine x8x (b := 1) rfl rfl (by omega) (dv 1 ?_)
  exact ⟨i + 1, ⟨⟨by omega, by rw [z6z hy, List.mem_append, List.mem_singleton, not_or]; exact ⟨k2, hne⟩⟩, by omega⟩, [], x6x, x6x, x5x, x5x, rfl⟩
 have hxy : x = y := by simpa [a1u] using hc5
 subst hxy
 refine dv 4 ?_
 refine x2x rfl ?_ rfl
 exact congrArg (fun v : Int => [AV.pv (.int .i64 v)]) (e3m hy k2).symm
theorem a4f (c : Bool) (l : List Ev) (x : Ev) : a0q Tryz.prog 253 [q2q c l, .agg (y9y x)] (.pv (.bool (decide (x ∈ l)))) := by
 refine pX Tryz.f253 [.pv (.bool (decide (x ∈ l)))] 1 ?_
 refine dv 1 ?_
 refine y0y (id := 0) rfl rfl rfl (dv 4 ?_)
 refine x0x rfl rfl rfl (a5b c l x) (dv 3 ?_)
 refine x2x rfl ?_ rfl
 exact congrArg (fun b : Bool => [AV.pv (.bool b)]) (e7y x l)
theorem a8e (c c' : Bool) (l o : List Ev) (g m : Int) : Meth Tryz.prog 252 2 [0, 1] [q2q c l, q2q c' o, .ptr 0 0 0, .ptr 1 0 0] [(0, (0, .box 3 [pI g])), (1, (0, .box 3 [pI m]))] (.tup []) [(1, (0, .box 3 [pI (chg g o m l)]))] := by
 refine mX Tryz.f252 [] 2 1 fun γ => ?_
 refine u0u 0 rfl fun hlen => ?_
 refine dv 5 ?_
 refine x4x (ι := Nat) (fun i γ1 => [(10, pI (i : Int))]) (fun i γ1 => [(1, ((γ 1), .box 3 [pI (chg g o m (l.take i))])), (2, ((γ1 2), .dead))]) (fun i => i ≤ l.length) (fun i => l.length - i) (q8q [1, 2, 3, 8, 9] rfl) (u9u 0 rfl HE.nil) 0 (by omega) [0, 0, _] x6x (HE.box rfl (by rw [List.take_zero]; rfl) (HE.kill rfl HE.nil)) rfl fun i γ1 hi => ?_
 refine dc 3 (fun K K' => aS ?_ ?_)<;>intro j<;>try simp at j
 ·obtain rfl : i = l.length := by omega
  refine dv 1 ?_
  exact ⟨[γ 0, γ 1], rfl, rfl, HE.box rfl (by rw [List.take_length]; rfl) (u9u 0 rfl HE.nil)⟩
 obtain ⟨x, hx⟩ := gE l i
 refine dv 6 fun K K' => ?_
 refine x3x (id := 2) z2z a7v rfl (dc 7 (aS ?_ ?_))<;>intro j<;>try simp at j
 ·have hn : ¬ (g ≤ x.time ∧ x.time < (chg g o m (l.take i)) ∧ ¬ x ∈ o) := fun q => (by have := q.1; omega)
  refine dv 13 ?_
  refine x8x (b := 1) rfl rfl (by omega) (dv 1 ?_)
  exact ⟨i + 1, ⟨by omega, by omega⟩, [0, 0, _], x6x, x6x, (HE.box rfl (by rw [a8j hx, if_neg hn]) (HE.kill rfl HE.nil)), x5x, rfl⟩
 refine dc 6 (aS ?_ ?_)<;>intro j<;>try simp at j
 ·have hn : ¬ (g ≤ x.time ∧ x.time < (chg g o m (l.take i)) ∧ ¬ x ∈ o) := by exact fun q => (by have := q.2.1; omega)
  refine dv 7 ?_
  refine x8x (b := 1) rfl rfl (by omega) (dv 1 ?_)
  exact ⟨i + 1, ⟨by omega, by omega⟩, [0, 0, _], x6x, x6x, (HE.box rfl (by rw [a8j hx, if_neg hn]) (HE.kill rfl HE.nil)), x5x, rfl⟩
 refine dv 2 ?_
 refine x0x rfl rfl rfl (a4f c' o x) ?_
 refine dc 2 (aS ?_ ?_)<;>intro hc6<;>try simp at hc6
 ·have hn : ¬ (g ≤ x.time ∧ x.time < (chg g o m (l.take i)) ∧ ¬ x ∈ o) := fun q => q.2.2 hc6
  refine dv 2 ?_
  refine x8x (b := 1) rfl rfl (by omega) (dv 1 ?_)
  exact ⟨i + 1, ⟨by omega, by omega⟩, [0, 0, _], x6x, x6x, (HE.box rfl (by rw [a8j hx, if_neg hn]) (HE.kill rfl HE.nil)), x5x, rfl⟩
 have hy : g ≤ x.time ∧ x.time < (chg g o m (l.take i)) ∧ ¬ x ∈ o := ⟨by omega, by omega, by exact hc6⟩
 refine dv 5 ?_
 refine x8x (b := 1) rfl rfl (by omega) (dv 1 ?_)
 exact ⟨i + 1, ⟨by omega, by omega⟩, [0, 0, _], x6x, x6x, (HE.box rfl (by (rw [a8j hx, if_pos hy]; try rfl)) (HE.kill rfl HE.nil)), x5x, rfl⟩
theorem b0m (c c' : Bool) (a b : List Ev) (g m : Int) : a0q Tryz.prog 174 [q2q c a, q2q c' b, .pv (.int .i64 g), .pv (.int .i64 m)] (.pv (.int .i64 (chg g a (chg g b m a) b))) := by
 refine pX Tryz.f174 [.pv (.int .i64 (chg g a (chg g b m a) b))] 2 ?_
 refine dv 1 ?_
 refine b7a (id := 0) rfl rfl rfl rfl (dv 3 ?_)
 refine x3x (id := 1) s3s f7k rfl (dv 2 ?_)
 refine a9d rfl rfl (dv 5 ?_)
 refine rlM [0, 1] [_, _] (a8e c c' a b g m) rfl rfl rfl ?_
 refine dv 4 ?_
 refine rlM [0, 1] [_, _] (a8e c' c b a g (chg g b m a)) rfl rfl rfl ?_
 refine dv 4 ?_
 exact x2x rfl rfl rfl
theorem c6b (c c' : Bool) (n : Nd) (f inc ver g : Int) (es : List Ev) : a0q Tryz.prog 172 [.agg (u2u c n), .pv (.int .i64 f), .pv (.int .i64 inc), .pv (.int .i64 ver), .pv (.int .i64 g), q2q c' es] (.pv (.bool (kb (a2g n f inc ver g es)))) := by
 refine pX Tryz.f172 [.pv (.bool (kb (a2g n f inc ver g es)))] 2 ?_
 refine dv 1 ?_
 refine y0y (id := 0) rfl rfl rfl (dc 7 (fun K K' => aS ?_ ?_))<;>intro hg2<;>try simp at hg2
 ·have fX : ¬ a2g n f inc ver g es := by (rintro ⟨m1, m2, m3, m4, m5, m6, m7, m8, m9⟩; (simp_all; done))
  refine dv 18 ?_
  refine x2x rfl ?_ rfl
  exact congrArg (fun b : Bool => [AV.pv (.bool b)]) (a4g fX)
 have fUp : n.up = true := hg2
 refine dc 5 (aS ?_ ?_)<;>intro j<;>try simp at j
 ·have fX : ¬ a2g n f inc ver g es := by (rintro ⟨m1, m2, m3, m4, m5, m6, m7, m8, m9⟩; omega)
  refine dv 13 ?_
  refine x2x rfl ?_ rfl
  exact congrArg (fun b : Bool => [AV.pv (.bool b)]) (a4g fX)
 refine dv 1 ?_
 refine x0x rfl rfl rfl (b9o ..) (dc 3 (aS ?_ ?_))<;>intro j<;>try simp at j
 ·have fX : ¬ a2g n f inc ver g es := by (rintro ⟨m1, m2, m3, m4, m5, m6, m7, m8, m9⟩; omega)
  refine dv 8 ?_
  refine x2x rfl ?_ rfl
  exact congrArg (fun b : Bool => [AV.pv (.bool b)]) (a4g fX)
 refine dc 5 (aI ?_ ?_)<;>intro hc5<;>try simp at hc5
 ·have fX : ¬ a2g n f inc ver g es := by (rintro ⟨m1, m2, m3, m4, m5, m6, m7, m8, m9⟩; omega)
  refine dv 3 ?_
  refine x2x rfl ?_ rfl
  exact congrArg (fun b : Bool => [AV.pv (.bool b)]) (a4g fX)
 have f4 : ¬ f = n.id := hc5
 refine dv 4 fun K K' => ?_
 refine x0x rfl rfl rfl (u6u ..) (dc 2 (aS ?_ ?_))<;>intro j<;>try simp at j
 ·have fX : ¬ a2g n f inc ver g es := by (rintro ⟨m1, m2, m3, m4, m5, m6, m7, m8, m9⟩; omega)
  refine dv 12 ?_
  refine x2x rfl ?_ rfl
  exact congrArg (fun b : Bool => [AV.pv (.bool b)]) (a4g fX)
 refine dv 1 ?_
 refine x0x rfl rfl rfl (u6u ..) (dc 3 (aS ?_ ?_))<;>intro j<;>try simp at j
 ·have fX : ¬ a2g n f inc ver g es := by (rintro ⟨m1, m2, m3, m4, m5, m6, m7, m8, m9⟩; omega)
  refine dv 7 ?_
  refine x2x rfl ?_ rfl
  exact congrArg (fun b : Bool => [AV.pv (.bool b)]) (a4g fX)
 refine dv 1 ?_
 refine x0x rfl rfl rfl (u6u ..) (dc 2 (aI ?_ ?_))<;>intro j<;>try simp at j
 ·have fX : ¬ a2g n f inc ver g es := by (rintro ⟨m1, m2, m3, m4, m5, m6, m7, m8, m9⟩; omega)
  refine dv 3 ?_
  refine x2x rfl ?_ rfl
  exact congrArg (fun b : Bool => [AV.pv (.bool b)]) (a4g fX)
 refine dv 7 fun K K' => ?_
 refine u0u 5 rfl fun hlen => ?_
 refine x4x (ι := Nat) (fun i γ1 => [(49, pI (i : Int))]) (fun i γ1 => [(1, ((γ1 1), .dead))]) (fun i => i ≤ es.length ∧ c9q es (fun _ e => q3q e.to = n.id ∧ (e.from' = -1 ∨ q3q e.from' = f)) i) (fun i => es.length - i) (q8q [1, 5, 6, 47, 48] rfl) (u9u 0 rfl HE.nil) 0 ⟨by omega, a1p⟩ [0, _] x6x x5x rfl fun i γ1 hi => ?_
 obtain ⟨k1, k2⟩ := hi
 refine dc 3 (fun K K' => aS ?_ ?_)<;>intro j<;>try simp at j
 ·have hall := a3c k2 (by omega)
  refine dv 3 ?_
  refine x0x rfl rfl rfl (a6g c' es 100) ?_
  refine dv 2 ?_
  refine x2x rfl ?_ rfl
  exact congrArg (fun b : Bool => [AV.pv (.bool b)]) (e7j ⟨fun q => ⟨fUp, by omega, by omega, f4, by omega, by omega, by omega, q, fun e he => by obtain ⟨i, hi⟩ := List.getElem?_of_mem he; exact hall i e hi⟩, fun q => q.2.2.2.2.2.2.2.1⟩)
 obtain ⟨e, he⟩ := gE es i
 refine dv 6 fun K K' => ?_
 refine x3x (id := 1) z2z a7v rfl (dv 4 ?_)
 refine x0x rfl rfl rfl (a8n ..) (dc 4 (aS ?_ ?_))<;>intro hg14<;>try simp at hg14
 ·have fE : ¬ (q3q e.to = n.id ∧ (e.from' = -1 ∨ q3q e.from' = f)) := fun q => (by have := q.1; omega)
  refine dv 11 ?_
  have fX : ¬ a2g n f inc ver g es := fun q => fE (q.2.2.2.2.2.2.2.2 e (List.mem_of_getElem? he))
  refine dv 3 ?_
  refine x2x rfl ?_ rfl
  exact congrArg (fun b : Bool => [AV.pv (.bool b)]) (a4g fX)
 have e1 : q3q e.to = n.id := hg14
 refine dc 4 (aS ?_ ?_)<;>intro hg15<;>try simp at hg15
 ·have hE : q3q e.to = n.id ∧ (e.from' = -1 ∨ q3q e.from' = f) := ⟨e1, .inl hg15⟩
  refine dv 9 ?_
  refine x8x (b := 1) rfl rfl (by omega) (dv 1 ?_)
  exact ⟨i + 1, ⟨⟨by omega, s6s k2 he hE⟩, by omega⟩, [0, _], x6x, x6x, x5x, x5x, rfl⟩
 refine dv 2 ?_
 refine x0x rfl rfl rfl (a8n ..) (dc 4 (aS ?_ ?_))<;>intro hc16<;>try simp at hc16
 ·have hE : q3q e.to = n.id ∧ (e.from' = -1 ∨ q3q e.from' = f) := ⟨e1, .inr hc16⟩
  refine dv 2 ?_
  refine x8x (b := 1) rfl rfl (by omega) (dv 1 ?_)
  exact ⟨i + 1, ⟨⟨by omega, s6s k2 he hE⟩, by omega⟩, [0, _], x6x, x6x, x5x, x5x, rfl⟩
 have fE : ¬ (q3q e.to = n.id ∧ (e.from' = -1 ∨ q3q e.from' = f)) := by (rintro ⟨q1, q2 | q2⟩ <;> omega)
 have fX : ¬ a2g n f inc ver g es := fun q => fE (q.2.2.2.2.2.2.2.2 e (List.mem_of_getElem? he))
 refine dv 3 ?_
 refine x2x rfl ?_ rfl
 exact congrArg (fun b : Bool => [AV.pv (.bool b)]) (a4g fX)
end
section
theorem c0a (c : Bool) (n : Nd) (hs : (r2r n).length ≤ 5000000) (hlen : n.lanes.length ≤ 1048576) : Meth Tryz.prog 229 6 [0, 1, 2, 3, 4] [.ptr 4 0 0] [(0, (0, .row 41 3 ((n.lanes).map fun l => s1s l.base))), (1, (0, .row 42 1 ((n.lanes).map fun l => [a6e c l.done]))), (2, (0, .map (b0k c n.views))), (3, (0, .row 3 1 (n.known.map a2w))), (4, (0, .box 164 [pI n.id, pI n.inc, pI n.g, pI n.led, .ref 0 0, q2q c n.kept, r0r c n.outs, .pv (.bool n.up), .ref 1 0, pI n.version, .mp 2 0, .ref 3 0, pI n.round, pI n.low])), (5, (0, .dead))] (q2q true (r2r n)) [(5, (0, .dead))] := by
 refine p3p v4v (fn := Tryz.f229) (by kernel_rfl) (by kernel_rfl) rfl (O0 := [q2q true (r2r n)]) 6 2 (s0s rfl) (by rfl) (by repeat (first | exact BndH.nil | refine BndH.dead ?_ | refine BndH.box rfl ?_ | refine BndH.row (w1w fun _ => rfl) ?_ | refine BndH.map (a1g _ _) ?_ )) (by repeat (first | exact BndH.nil | refine BndH.dead ?_ )) (by rfl) fun γ => ?_
 show Ex Tryz.prog _ _ [(0, .ptr 4 (γ 4) 0)] [(0, ((γ 0), .row 41 3 ((n.lanes).map fun l => s1s l.base))), (1, ((γ 1), .row 42 1 ((n.lanes).map fun l => [a6e c l.done]))), (2, ((γ 2), .map (b0k c n.views))), (3, ((γ 3), .row 3 1 (n.known.map a2w))), (4, ((γ 4), .box 164 [pI n.id, pI n.inc, pI n.g, pI n.led, .ref 0 (γ 0), q2q c n.kept, r0r c n.outs, .pv (.bool n.up), .ref 1 (γ 1), pI n.version, .mp 2 (γ 2), .ref 3 (γ 3), pI n.round, pI n.low])), (5, ((γ 5), .dead)), (7, (0, .dead)), (6, (0, .dead))] _
 have hkl : n.kept.length ≤ 5000000 := by simp only [r2r, r7r] at hs; omega
 refine dv 8 ?_
 refine rlM [5] [_] (w4w c n.kept (by omega)) rfl rfl rfl ?_
 refine dv 10 fun K K' => ?_
 refine x4x (ι := Nat) (fun i γ1 => [(3, .ref 5 (γ1 5)), (19, pI (i : Int))]) (fun i γ1 => [(5, ((γ1 5), .row 56 7 ((n.kept ++ (n.lanes.take i).flatMap a8h).map y9y))), (6, ((γ1 6), .dead)), (7, ((γ1 7), .dead))]) (fun i => i ≤ n.lanes.length) (fun i => n.lanes.length - i) (q8q [17, 18] rfl) (a0o [0, 1, 2, 3, 4] rfl) 0 (by omega) [0, 0, 0, 0, 0, _, _, _] x6x (HE.row rfl (by simp) (HE.kill rfl (HE.kill rfl HE.nil))) rfl fun i γ1 hi => ?_
 refine dc 3 (fun K K' => aS ?_ ?_)<;>intro h<;>try simp at h
 ·obtain rfl : i = n.lanes.length := by omega
  refine dv 4 ?_
  refine p8p 2 rfl rfl (fun _ => rfl) ?_
  refine dv 1 ?_
  exact ⟨[γ 0, γ 1, γ 2, γ 3, γ 4, _], rfl, congrArg (fun l : List Ev => some [q2q true l]) (by rw [List.take_length]; rfl), x5x⟩
 obtain ⟨p, hp⟩ := gE n.lanes i
 refine dv 4 fun K K' => ?_
 refine z0z (j := i) rfl rfl b8o rfl a6n rfl rfl (y8y hp) ?_
 refine dv 7 ?_
 refine u0u 23 rfl fun hlen2 => ?_
 refine x4x (ι := Nat) (fun j γ2 => [(3, .ref 5 (γ2 5)), (25, pI (j : Int))]) (fun j γ2 => [(5, ((γ2 5), .row 56 7 ((n.kept ++ (n.lanes.take i).flatMap a8h ++ (p.done.take j).flatMap Pa.sends).map y9y))), (6, ((γ2 6), .dead)), (7, ((γ2 7), .dead))]) (fun j => j ≤ p.done.length) (fun j => p.done.length - j) (q8q [17, 18, 19, 23, 24] rfl) (a0o [0, 1, 2, 3, 4] rfl) 0 (by omega) [0, 0, 0, 0, 0, _, _, _] x6x (HE.row rfl (by simp) (HE.kill rfl (HE.kill rfl HE.nil))) rfl fun j γ2 hi => ?_
 refine dc 3 (fun K K' => aS ?_ ?_)<;>intro h<;>try simp at h
 ·obtain rfl : j = p.done.length := by omega
  refine dv 2 ?_
  refine z8z rfl rfl rfl (dv 1 ?_)
  exact ⟨i + 1, ⟨by omega, by omega⟩, [0, 0, 0, 0, 0, _, _, _], (x7x 3 rfl (Cov.cons' (t := 19) rfl (by rw [x9x (by omega) (by omega)]; rfl) Cov.nil)), x6x, (HE.row rfl (by simp only [a3y hp, List.append_assoc, a8h, List.take_length]) (HE.kill rfl (HE.kill rfl HE.nil))), x5x, rfl⟩
 obtain ⟨q, hq⟩ := gE p.done j
 have hsp := c4i hp hq
 refine dv 6 fun K K' => ?_
 refine x3x (id := 6) a3p c0o rfl (dv 5 ?_)
 refine w5w (zs := (n.kept ++ (n.lanes.take i).flatMap a8h ++ (p.done.take j).flatMap Pa.sends ++ q.sends).map y9y) rfl rfl u4u rfl z2z rfl rfl rfl (z9z (fun _ => rfl) _) (a7w _ _ _) (by have hb56 : T56.bytes = 56 := rfl; rw [List.length_map, hb56]; omega) ?_
 refine dv 2 ?_
 refine z8z rfl rfl rfl (dv 1 ?_)
 exact ⟨j + 1, ⟨by omega, by omega⟩, [0, 0, 0, 0, 0, _, _, _], (x7x 3 rfl (Cov.cons' (t := 25) rfl (by rw [x9x (by omega) (by omega)]; rfl) Cov.nil)), x6x, (HE.row rfl (by simp only [a3y hq, List.append_assoc]) (HE.kill rfl (HE.kill rfl HE.nil))), x5x, rfl⟩
theorem b7y (to kn : Int) (e : Ev) : Meth Tryz.prog 240 2 [0, 1] [.agg (y9y e), .ptr 0 0 0, .ptr 1 0 0] [(0, (0, .box 3 [pI to])), (1, (0, .box 3 [pI kn]))] (.pv (.bool (a3r to kn e))) [] := by
 refine mX Tryz.f240 [.pv (.bool (a3r to kn e))] 2 1 fun γ => ?_
 refine dv 1 ?_
 refine y0y (id := 2) rfl rfl rfl (dv 4 ?_)
 refine x0x rfl rfl rfl (a8n ..) (dc 3 (aS ?_ ?_))<;>intro h<;>try simp at h
 ·refine dv 6 ?_
  exact ⟨[γ 0, γ 1], rfl, congrArg (fun b : Bool => some [AV.pv (.bool b)]) ((decide_eq_false (by omega)).symm), x5x⟩
 refine dv 7 ?_
 exact ⟨[γ 0, γ 1], rfl, congrArg (fun b : Bool => some [AV.pv (.bool b)]) (decide_eq_decide.2 (by omega)), x5x⟩
theorem a8q (to kn : Int) (l : List Ev) (hl : l.length ≤ 10000000) : Meth Tryz.prog 230 2 [0, 1] [q2q true l, .fn (.func 240) [] [.ptr 0 0 0, .ptr 1 0 0]] [(0, (0, .box 3 [pI to])), (1, (0, .box 3 [pI kn]))] (q2q true (l.filter (a3r to kn))) [] := by
 refine mX Tryz.f230 [q2q true (l.filter (a3r to kn))] 2 4 fun γ => ?_
 refine dv 10 fun K K' => ?_
 refine a3v 5 5 56 7 rfl rfl ?_
 refine x4x (ι := Nat) (fun i γ1 => [(5, .ref 5 (γ1 5)), (10, pI (i : Int))]) (fun i γ1 => [(5, ((γ1 5), .row 56 7 (((l.take i).filter (a3r to kn)).map y9y))), (2, ((γ1 2), .dead)), (3, ((γ1 3), .dead)), (4, ((γ1 4), .dead))]) (fun i => i ≤ l.length) (fun i => l.length - i) (q8q [1, 8, 9] rfl) (a0o [0, 1] rfl) 0 (by omega) [0, 0, _, _, _, _] x6x (HE.row rfl (by rw [List.take_zero]; rfl) (HE.kill rfl (HE.kill rfl (HE.kill rfl HE.nil)))) rfl fun i γ1 hi => ?_
 refine dc 3 (fun K K' => aS ?_ ?_)<;>intro h<;>try simp at h
 ·obtain rfl : i = l.length := by omega
  rw [List.take_length]
  refine dv 1 ?_
  refine p8p 5 rfl rfl (fun _ => rfl) ?_
  refine dv 4 ?_
  exact ⟨[γ 0, γ 1], rfl, rfl, x5x⟩
 obtain ⟨p, hp⟩ := gE l i
 have hfl : ((l.take i).filter (a3r to kn)).length ≤ 10000000 := Nat.le_trans (List.length_filter_le _ _) (by rw [List.length_take]; omega)
 refine dv 6 fun K K' => ?_
 refine x3x (id := 2) z2z a7v rfl (dv 4 ?_)
 refine rlM [0, 1] [_, _] (b7y to kn p) rfl rfl rfl ?_
 refine dc 0 (aS ?_ ?_)<;>intro hc5<;>try simp at hc5
 ·have hw : ¬ a3r to kn p = true := by rw [hc5]; decide
  refine dv 2 ?_
  refine z8z rfl rfl rfl (dv 1 ?_)
  exact ⟨i + 1, ⟨by omega, by omega⟩, [0, 0, _, _, _, _], (x7x 5 rfl (Cov.cons' (t := 10) rfl (by rw [x9x (by omega) (by omega)]; rfl) Cov.nil)), x6x, (HE.row rfl (by rw [q9q hp]; rw [if_neg hw, List.append_nil]) (HE.kill rfl (HE.kill rfl (HE.kill rfl HE.nil)))), x5x, rfl⟩
 have hw : a3r to kn p = true := hc5
 refine dv 3 ?_
 refine y3y (id := 3) u4u rfl z2z rfl rfl rfl rfl rfl rfl ?_
 refine y6y (zs := ((l.take i).filter (a3r to kn) ++ [p]).map y9y) rfl rfl u4u rfl z2z rfl rfl rfl rfl (by rfl) (z7z _ _ _) (by (simp only [a0e, r7r, a0c, a0d, a0r, a2y, T56] at *; omega)) ?_
 refine dv 2 ?_
 refine z8z rfl rfl rfl (dv 1 ?_)
 exact ⟨i + 1, ⟨by omega, by omega⟩, [0, 0, _, _, _, _], (x7x 5 rfl (Cov.cons' (t := 10) rfl (by rw [x9x (by omega) (by omega)]; rfl) Cov.nil)), (x7x 1 rfl (x7x 8 rfl (x7x 9 rfl Cov.nil))), (HE.row rfl (by rw [q9q hp]; rw [if_pos hw]) (HE.kill rfl (HE.kill rfl (HE.kill rfl HE.nil)))), (u9u 0 rfl (u9u 1 rfl HE.nil)), rfl⟩
end
section
theorem c7j (c c' : Bool) (l : La) (s : List Ev) (hs : l.done.length ≤ 1000000) : a0q Tryz.prog 254 [.agg (q7q c l), q2q c' s] (.tup [.agg (q7q c (a1h l 0 (same l.done s))), .pv (.bool (decide ((same l.done s) < l.done.length)))]) := by
 refine pX Tryz.f254 [.agg (q7q c (a1h l 0 (same l.done s))), .pv (.bool (decide ((same l.done s) < l.done.length)))] 4 ?_
 have hsm := c2t l.done s
 refine dv 1 ?_
 refine y0y (id := 0) rfl rfl rfl (x3x (id := 1) a0l a6o rfl (dv 4 ?_))
 refine rlM [2] [_] (b6p c l.done) rfl rfl rfl ?_
 refine dv 3 ?_
 refine rlM [2, 3] [_, _] (b5y c l.done) rfl rfl rfl ?_
 refine dv 4 ?_
 refine rlM [2] [_] (a7p c c' l.done s) rfl rfl rfl ?_
 refine dc 8 (fun K K' => aI ?_ ?_)<;>intro o<;>try simp at o
 ·have hq : (same l.done s) = l.done.length := by omega
  refine dv 5 ?_
  (rw [hq, b2r, decide_eq_false (Nat.lt_irrefl _)]; exact ⟨_, _, rfl, .agg rfl (.cl rfl (.cl rfl (.cl rfl (.cl rfl (.cl rfl .nil))))) (.cl rfl .nil)⟩)
 have hq : ¬ (same l.done s) = l.done.length := by omega
 refine dv 4 ?_
 refine rlM [2, 3] [_, _] (b3w c l.done (same l.done s) hsm.2 hs) rfl rfl rfl ?_
 refine dv 2 ?_
 refine rlM [2] [_] (c1p c (l.done.take (same l.done s)) (by rw [List.length_take]; omega)) rfl rfl rfl ?_
 refine dv 7 ?_
 (rw [decide_eq_true (show (same l.done s) < l.done.length by omega)]; exact ⟨_, _, rfl, .agg rfl (.cl rfl (.cl rfl (.cl rfl (.cl rfl (.cl rfl .nil))))) (.cl rfl .nil)⟩)
theorem c0b (c : Bool) (n : Nd) (proc : Int) (hs : (r2r n).length + (a0f n 3).length ≤ 5000000) (hlen : n.lanes.length ≤ 1048576) (hv3 : n.views.length = 3) : Meth Tryz.prog 126 6 [0, 1, 2, 3, 4] [.ptr 4 0 0, .pv (.int .i64 proc)] [(0, (0, .row 41 3 ((n.lanes).map fun l => s1s l.base))), (1, (0, .row 42 1 ((n.lanes).map fun l => [a6e c l.done]))), (2, (0, .map (b0k c n.views))), (3, (0, .row 3 1 (n.known.map a2w))), (4, (0, .box 164 [pI n.id, pI n.inc, pI n.g, pI n.led, .ref 0 0, q2q c n.kept, r0r c n.outs, .pv (.bool n.up), .ref 1 0, pI n.version, .mp 2 0, .ref 3 0, pI n.round, pI n.low])), (5, (0, .dead))] (q2q true (a1f n proc)) [(5, (0, .dead))] := by
 refine p3p v4v (fn := Tryz.f126) (by kernel_rfl) (by kernel_rfl) rfl (O0 := [q2q true (a1f n proc)]) 6 4 (s0s rfl) (by rfl) (by repeat (first | exact BndH.nil | refine BndH.dead ?_ | refine BndH.box rfl ?_ | refine BndH.row (w1w fun _ => rfl) ?_ | refine BndH.map (a1g _ _) ?_ )) (by repeat (first | exact BndH.nil | refine BndH.dead ?_ )) (by rfl) fun γ => ?_
 show Ex Tryz.prog _ _ [(0, .ptr 4 (γ 4) 0), (1, .pv (.int .i64 proc))] [(0, ((γ 0), .row 41 3 ((n.lanes).map fun l => s1s l.base))), (1, ((γ 1), .row 42 1 ((n.lanes).map fun l => [a6e c l.done]))), (2, ((γ 2), .map (b0k c n.views))), (3, ((γ 3), .row 3 1 (n.known.map a2w))), (4, ((γ 4), .box 164 [pI n.id, pI n.inc, pI n.g, pI n.led, .ref 0 (γ 0), q2q c n.kept, r0r c n.outs, .pv (.bool n.up), .ref 1 (γ 1), pI n.version, .mp 2 (γ 2), .ref 3 (γ 3), pI n.round, pI n.low])), (5, ((γ 5), .dead)), (9, (0, .dead)), (8, (0, .dead)), (7, (0, .dead)), (6, (0, .dead))] _
 refine dv 1 ?_
 refine b7a (id := 6) rfl rfl rfl rfl (b7a (id := 7) rfl rfl rfl rfl (dv 3 ?_))
 refine rlM [0, 1, 2, 3, 4, 9] [_, _, _, _, _, _] (b3m c n (by omega) hlen) rfl rfl rfl ?_
 refine dv 5 fun K K' => ?_
 refine x4x (ι := Nat) (fun i γ1 => [(5, .ref 9 (γ1 9)), (9, pI (i : Int))]) (fun i γ1 => [(9, ((γ1 9), .row 56 7 ((r2r n ++ a0f n i).map y9y))), (8, ((γ1 8), .dead))]) (fun i => i ≤ 3) (fun i => 3 - i) (q8q [2, 3] rfl) (a0o [0, 1, 2, 3, 4, 5, 6, 7] rfl) 0 (by omega) [0, 0, 0, 0, 0, 0, 0, 0, _, _] x6x (HE.row rfl (by simp [a0f]) (HE.kill rfl HE.nil)) rfl fun i γ1 hi => ?_
 refine dc 3 (fun K K' => aS ?_ ?_)<;>intro o<;>try simp at o
 ·obtain rfl : i = 3 := by omega
  refine dv 1 ?_
  refine p8p 5 rfl rfl (fun _ => rfl) ?_
  refine dv 2 ?_
  refine a9d rfl rfl ?_
  refine rlM [0, 1, 2, 3, 4, 7, 6] [_, _, _, _, _, _, _] (a4e c n proc _ (by rw [List.length_append]; omega)) rfl rfl rfl ?_
  refine rlM [5] [_] (a8d true _ (Nat.le_trans (List.length_filter_le _ _) (by rw [List.length_append]; omega))) rfl rfl rfl ?_
  refine dv 1 ?_
  refine p8p 4 rfl rfl (fun _ => rfl) ?_
  refine dv 1 ?_
  exact ⟨[γ 0, γ 1, γ 2, γ 3, γ 4, _], rfl, rfl, x5x⟩
 obtain ⟨v, hv⟩ := gE n.views i
 have hg : n.views.getD i vi0 = v := by rw [List.getD_eq_getElem?_getD, hv]; rfl
 have hol := c4j n (i := i + 1) (by omega)
 rw [a1b] at hol
 refine dc 14 (fun K K' => aS ?_ ?_)<;>intro hc5<;>try simp at hc5
 ·have hve : b0s n i = [] := by rw [b0s, if_pos hc5]
  refine dv 2 ?_
  refine z8z rfl rfl rfl (dv 1 ?_)
  exact ⟨i + 1, ⟨by omega, by omega⟩, [0, 0, 0, 0, 0, 0, 0, 0, _, _], (x7x 5 rfl (Cov.cons' (t := 9) rfl (by rw [x9x (by omega) (by omega)]; rfl) Cov.nil)), x6x, (HE.row rfl (by rw [a1b, hve]; simp) (HE.kill rfl HE.nil)), x5x, rfl⟩
 have hve : b0s n i = v.events := by rw [b0s, if_neg hc5, hg]
 rw [hve] at hol
 simp only [r7r] at hol
 refine dv 7 ?_
 refine a3x (κ := Int) (enc := fun n => .int .i64 n) (ks := b7u n.views.length) (k := (i : Int)) (out := .agg (a2c c v)) v4v Tryz.underlying162 (a9c Tryz.underlying3) rfl rfl (fun _ _ _ h => d4l h) rfl (a9p _ _) (b9r hv) ?_
 refine dv 1 ?_
 refine w5w (zs := (r2r n ++ a0f n i ++ v.events).map y9y) rfl rfl u4u rfl z2z rfl rfl rfl (z9z (fun _ => rfl) _) (a7w _ _ _) (by have hb56 : T56.bytes = 56 := rfl; rw [List.length_map, hb56]; simp only [r7r]; omega) ?_
 refine dv 2 ?_
 refine z8z rfl rfl rfl (dv 1 ?_)
 exact ⟨i + 1, ⟨by omega, by omega⟩, [0, 0, 0, 0, 0, 0, 0, 0, _, _], (x7x 5 rfl (Cov.cons' (t := 9) rfl (by rw [x9x (by omega) (by omega)]; rfl) Cov.nil)), (x7x 2 rfl (x7x 3 rfl Cov.nil)), (HE.row rfl (by rw [a1b, hve]; simp) (HE.kill rfl HE.nil)), (u9u 0 rfl (u9u 1 rfl (u9u 2 rfl (u9u 3 rfl (u9u 4 rfl (u9u 5 rfl (u9u 6 rfl (u9u 7 rfl HE.nil)))))))), rfl⟩
theorem b7z (c : Bool) (n : Nd) (t : Nat) (ht : t < 3) (hk3 : n.known.length = 3) (hs : (r2r n).length ≤ 5000000) (hlen : n.lanes.length ≤ 1048576) : Meth Tryz.prog 138 6 [0, 1, 2, 3, 4] [.ptr 4 0 0, .pv (.int .i64 (t : Int))] [(0, (0, .row 41 3 ((n.lanes).map fun l => s1s l.base))), (1, (0, .row 42 1 ((n.lanes).map fun l => [a6e c l.done]))), (2, (0, .map (b0k c n.views))), (3, (0, .row 3 1 (n.known.map a2w))), (4, (0, .box 164 [pI n.id, pI n.inc, pI n.g, pI n.led, .ref 0 0, q2q c n.kept, r0r c n.outs, .pv (.bool n.up), .ref 1 0, pI n.version, .mp 2 0, .ref 3 0, pI n.round, pI n.low])), (5, (0, .dead))] (q2q true (a1w n (t : Int))) [(5, (0, .dead))] := by
 refine p3p v4v (fn := Tryz.f138) (by kernel_rfl) (by kernel_rfl) rfl (O0 := [q2q true (a1w n (t : Int))]) 6 3 (s0s rfl) (by rfl) (by repeat (first | exact BndH.nil | refine BndH.dead ?_ | refine BndH.box rfl ?_ | refine BndH.row (w1w fun _ => rfl) ?_ | refine BndH.map (a1g _ _) ?_ )) (by repeat (first | exact BndH.nil | refine BndH.dead ?_ )) (by rfl) fun γ => ?_
 show Ex Tryz.prog _ _ [(0, .ptr 4 (γ 4) 0), (1, .pv (.int .i64 (t : Int)))] [(0, ((γ 0), .row 41 3 ((n.lanes).map fun l => s1s l.base))), (1, ((γ 1), .row 42 1 ((n.lanes).map fun l => [a6e c l.done]))), (2, ((γ 2), .map (b0k c n.views))), (3, ((γ 3), .row 3 1 (n.known.map a2w))), (4, ((γ 4), .box 164 [pI n.id, pI n.inc, pI n.g, pI n.led, .ref 0 (γ 0), q2q c n.kept, r0r c n.outs, .pv (.bool n.up), .ref 1 (γ 1), pI n.version, .mp 2 (γ 2), .ref 3 (γ 3), pI n.round, pI n.low])), (5, ((γ 5), .dead)), (8, (0, .dead)), (7, (0, .dead)), (6, (0, .dead))] _
 obtain ⟨kn, hkn⟩ := gE n.known t
 refine dv 1 ?_
 refine b7a (id := 6) rfl rfl rfl rfl (dv 7 ?_)
 refine z0z (j := t) rfl rfl a0n rfl s3s rfl rfl (y8y hkn) ?_
 refine dv 1 ?_
 refine x3x (id := 7) s3s f7k rfl (dv 3 ?_)
 refine rlM [0, 1, 2, 3, 4, 8] [_, _, _, _, _, _] (c0a c n hs hlen) rfl rfl rfl ?_
 refine a9d rfl rfl ?_
 refine rlM [6, 7] [_, _] (a8q (t : Int) kn _ (by omega)) rfl rfl rfl ?_
 refine rlM [5] [_] (a8d true _ (Nat.le_trans (List.length_filter_le _ _) (by omega))) rfl rfl rfl ?_
 refine dv 1 ?_
 refine p8p 4 rfl rfl (fun _ => rfl) ?_
 refine dv 1 ?_
 exact ⟨[γ 0, γ 1, γ 2, γ 3, γ 4, _], rfl, congrArg (fun l : List Ev => some [q2q true l]) (by rw [c4l hkn]), HE.kill rfl (u9u 0 rfl (u9u 1 rfl (u9u 2 rfl (u9u 3 rfl (u9u 4 rfl HE.nil)))))⟩
theorem c1q (c : Bool) (n : Nd) (hw : wk n) (hpc : n.lanes.length = (q1q n.id 4).length) : Meth Tryz.prog 175 5 [0, 1, 2, 3, 4] [.ptr 4 0 0] [(0, (0, .row 41 3 ((n.lanes).map fun l => s1s l.base))), (1, (0, .row 42 1 ((n.lanes).map fun l => [a6e c l.done]))), (2, (0, .map (b0k c n.views))), (3, (0, .row 3 1 (n.known.map a2w))), (4, (0, .box 164 [pI n.id, pI n.inc, pI n.g, pI n.led, .ref 0 0, q2q c n.kept, r0r c n.outs, .pv (.bool n.up), .ref 1 0, pI n.version, .mp 2 0, .ref 3 0, pI n.round, pI n.low]))] (.tup []) [(0, (0, .row 41 3 (((nl n (w2w n n.lanes)).lanes).map fun l => s1s l.base))), (1, (0, .row 42 1 (((nl n (w2w n n.lanes)).lanes).map fun l => [a6e c l.done]))), (2, (0, .map (b0k c (nl n (w2w n n.lanes)).views))), (3, (0, .row 3 1 ((nl n (w2w n n.lanes)).known.map a2w))), (4, (0, .box 164 [pI (nl n (w2w n n.lanes)).id, pI (nl n (w2w n n.lanes)).inc, pI (nl n (w2w n n.lanes)).g, pI (nl n (w2w n n.lanes)).led, .ref 0 0, q2q c (nl n (w2w n n.lanes)).kept, r0r c (nl n (w2w n n.lanes)).outs, .pv (.bool (nl n (w2w n n.lanes)).up), .ref 1 0, pI (nl n (w2w n n.lanes)).version, .mp 2 0, .ref 3 0, pI (nl n (w2w n n.lanes)).round, pI (nl n (w2w n n.lanes)).low]))] := by
 refine p3p v4v (fn := Tryz.f175) (by kernel_rfl) (by kernel_rfl) rfl (O0 := []) 5 2 (s0s rfl) (by rfl) (by repeat (first | exact BndH.nil | refine BndH.box rfl ?_ | refine BndH.row (w1w fun _ => rfl) ?_ | refine BndH.map (a1g _ _) ?_ )) (by repeat (first | exact BndH.nil | refine BndH.box rfl ?_ | refine BndH.row (w1w fun _ => rfl) ?_ | refine BndH.map (a1g _ _) ?_ )) (by rfl) fun γ => ?_
 show Ex Tryz.prog _ _ [(0, .ptr 4 (γ 4) 0)] [(0, ((γ 0), .row 41 3 ((n.lanes).map fun l => s1s l.base))), (1, ((γ 1), .row 42 1 ((n.lanes).map fun l => [a6e c l.done]))), (2, ((γ 2), .map (b0k c n.views))), (3, ((γ 3), .row 3 1 (n.known.map a2w))), (4, ((γ 4), .box 164 [pI n.id, pI n.inc, pI n.g, pI n.led, .ref 0 (γ 0), q2q c n.kept, r0r c n.outs, .pv (.bool n.up), .ref 1 (γ 1), pI n.version, .mp 2 (γ 2), .ref 3 (γ 3), pI n.round, pI n.low])), (6, (0, .dead)), (5, (0, .dead))] _
 refine dv 3 ?_
 refine x4x (ι := List La × Bool) (fun p γ1 => [(2, .pv (.bool (p.2)))]) (fun p γ1 => [(6, ((γ1 6), .dead)), (0, ((γ 0), .row 41 3 ((p.1).map fun l => s1s l.base))), (1, ((γ 1), .row 42 1 ((p.1).map fun l => [a6e c l.done]))), (5, ((γ1 5), .dead))]) (fun p => (p.2 = true → w2w n p.1 = w2w n n.lanes) ∧ (p.2 = false → p.1 = w2w n n.lanes) ∧ wk (nl n p.1) ∧ p.1.length = n.lanes.length) (fun p => 2 * c8d p.1 + p.2.toNat) (x7x 0 rfl Cov.nil) (a0o [2, 3, 4] rfl) (n.lanes, true) ⟨fun _ => rfl, fun h => (by cases h), hw, rfl⟩ [0, 0, 0, 0, 0, _, _] x6x x5x rfl fun p γ1 hi => ?_
 obtain ⟨ls, q⟩ := p
 obtain ⟨h1, h2, h3, h5⟩ := hi
 dsimp only at h1 h2 h3 h5 ⊢
 refine dc 3 (fun K K' => aS ?_ ?_)<;>intro hc2<;>try simp at hc2
 ·have hq : q = false := by simpa using hc2
  subst hq
  have hfin : ls = w2w n n.lanes := h2 rfl
  subst hfin
  refine dv 1 ?_
  exact ⟨[γ 0, γ 1, γ 2, γ 3, γ 4], rfl, rfl, x5x⟩
 have hq : q = true := hc2
 subst hq
 refine dv 10 ?_
 refine x0x rfl rfl rfl (a7b n.id) (dv 3 ?_)
 refine x4x (ι := Nat) (fun i γ2 => [(2, .pv (.bool (a9x n ls i))), (15, pI (i : Int))]) (fun i γ2 => [(6, ((γ2 6), .dead)), (0, ((γ 0), .row 41 3 ((a1c n ls i).map fun l => s1s l.base))), (1, ((γ 1), .row 42 1 ((a1c n ls i).map fun l => [a6e c l.done]))), (5, ((γ2 5), .dead))]) (fun i => i ≤ ls.length) (fun i => ls.length - i) (q8q [0, 13, 14] rfl) (a0o [2, 3, 4] rfl) 0 (by omega) [0, 0, 0, 0, 0, _, _] x6x x5x rfl fun i γ2 hi => ?_
 refine dc 3 (fun K K' => aS ?_ ?_)<;>intro o<;>try simp at o
 ·obtain rfl : i = ls.length := by omega
  refine dv 1 ?_
  exact ⟨(a1c n ls ls.length, a9x n ls ls.length), ⟨⟨fun h => (c2u h).trans (h1 rfl), fun h => (b5r h).trans (h1 rfl), b7k h3 _, (b9l n ls _).trans h5⟩, (e3i n ls ls.length)⟩, [0, 0, 0, 0, 0, _, _], x6x, x6x, x5x, x5x, rfl⟩
 have hpl : (a1c n ls i).length = ls.length := b9l n ls i
 have hpr : i < (q1q n.id 4).length := by omega
 obtain ⟨l, hp⟩ := gE (a1c n ls i) i
 have h4 := b7k h3 i
 have h41 : (a1c n ls i).length ≤ 4 := h4.1
 have hb4 := h4.2.2.2.2.1 l (List.mem_of_getElem? hp)
 have hpp : (q1q n.id 4)[i]? = some l.proc := h4.2.2.2.2.2.2 i l hp
 refine dv 12 fun K K' => ?_
 refine rlM [0, 1, 2, 3, 4] [_, _, _, _, _] (b0l c (nl n (a1c n ls i)) _ (a1g _ _) i l hp hpp) rfl rfl rfl ?_
 refine dv 2 ?_
 refine rlM [0, 1, 2, 3, 4, 6] [_, _, _, _, _, _] (c0b c (nl n (a1c n ls i)) l.proc (d4z h4) (by show (a1c n ls i).length ≤ 1048576; omega) h4.2.2.1) rfl rfl rfl ?_
 refine x0x rfl rfl rfl (c7j c true l (a1f (nl n (a1c n ls i)) l.proc) (by omega)) ?_
 refine dv 3 ?_
 refine x3x (id := 5) a0l a6o rfl (dc 4 (aS ?_ ?_))<;>intro hc6<;>try simp at hc6
 ·have hk := c9z (n := n) hp (by show ¬ same l.done (a1f (nl n (a1c n ls i)) l.proc) < l.done.length; simpa using hc6)
  refine dv 2 ?_
  refine z8z rfl rfl rfl (dv 1 ?_)
  exact ⟨i + 1, ⟨by omega, by omega⟩, [0, 0, 0, 0, 0, _, _], (Cov.cons' (t := 2) rfl (by rw [b1w, hk.2, Bool.or_false]) (Cov.cons' (t := 15) rfl (by rw [x9x (by omega) (by omega)]; rfl) Cov.nil)), x6x, (HE.kill rfl (HE.row rfl (by rw [b1v, d2w (fun _ _ => rfl)]) (HE.row rfl (by rw [b1v, hk.1]) (HE.kill rfl HE.nil)))), x5x, rfl⟩
 have hk := d5a (n := n) hp (by show same l.done (a1f (nl n (a1c n ls i)) l.proc) < l.done.length; exact hc6)
 refine dv 8 ?_
 refine z0z (j := i) rfl rfl b8o rfl a6n rfl rfl (y8y hp) ?_
 refine a8t (el' := a1h l 0 (keep n (a1c n ls i) l)) rfl rfl a6n rfl rfl rfl hp rfl (by omega) (.val rfl rfl .nil) rfl rfl ?_
 refine dv 3 ?_
 refine z8z rfl rfl rfl (dv 1 ?_)
 exact ⟨i + 1, ⟨by omega, by omega⟩, [0, 0, 0, 0, 0, _, _], (Cov.cons' (t := 2) rfl (by rw [b1w, hk.2, Bool.or_true]) (Cov.cons' (t := 15) rfl (by rw [x9x (by omega) (by omega)]; rfl) Cov.nil)), x6x, (HE.kill rfl (HE.row rfl (by rw [b1v, d2w (fun _ _ => rfl)]) (HE.row rfl (by rw [b1v, hk.1]) (HE.kill rfl HE.nil)))), x5x, rfl⟩
end
section
theorem a5c (c c' : Bool) (l l' : List Ev) : a0q Tryz.prog 256 [q2q c l, q2q c' l'] (.pv (.bool (decide (l = l')))) := by
 refine pX Tryz.f256 [.pv (.bool (decide (l = l')))] 0 ?_
 refine u0u 0 rfl fun hlen => ?_
 refine dc 9 (fun K K' => aI ?_ ?_)<;>intro j<;>try simp at j
 ·refine dv 3 ?_
  refine x2x rfl ?_ rfl
  exact e7z (by omega)
 refine dv 7 fun K K' => ?_
 refine x4x (ι := Nat) (fun i γ1 => [(13, pI (i : Int))]) (fun i γ1 => []) (fun i => i ≤ l.length ∧ l.length = l'.length ∧ l.take i = l'.take i) (fun i => l.length - i) (q8q [0, 1, 12] rfl) HE.nil 0 ⟨by omega, by omega, rfl⟩ [] x6x x5x rfl fun i γ1 hi => ?_
 obtain ⟨h1, h2, h3⟩ := hi
 refine dc 3 (fun K K' => aS ?_ ?_)<;>intro j<;>try simp at j
 ·refine dv 4 ?_
  refine x2x rfl ?_ rfl
  exact eqT h3 (by omega) (by omega)
 obtain ⟨x, hx⟩ := gE l i
 obtain ⟨y, hy⟩ := gE l' i
 refine dv 15 fun K K' => ?_
 refine a7i rfl rfl (by intro p q h; cases h) (.inr rfl) (e6b _ _ _ _) ?_
 refine dc 0 (aS ?_ ?_)<;>intro hc7<;>try simp at hc7
 ·have hxy : x = y := by simpa [a1u] using hc7
  refine dv 2 ?_
  refine x8x (b := 1) rfl rfl (by omega) (dv 1 ?_)
  exact ⟨i + 1, ⟨⟨by omega, h2, a4v h3 hx hy hxy⟩, by omega⟩, [], x6x, x6x, x5x, x5x, rfl⟩
 have hxy : ¬ x = y := by simpa [a1u] using hc7
 refine dv 3 ?_
 refine x2x rfl ?_ rfl
 exact d7j hx hy hxy
theorem a0k (l l' : List (List Ev)) : Meth Tryz.prog 255 1 [0] [.row (.rd true) 47 1 ((l).map fun l => [q2q true l]), .row (.rd true) 47 1 ((l').map fun l => [q2q true l]), .fn (.func 256) [] []] [(0, (0, .dead))] (.pv (.bool (decide (l = l')))) [] := by
 refine mX Tryz.f255 [.pv (.bool (decide (l = l')))] 1 0 fun γ => ?_
 refine u0u 0 rfl fun hlen => ?_
 refine dc 9 (fun K K' => aI ?_ ?_)<;>intro j<;>try simp at j
 ·refine dv 3 ?_
  exact ⟨[γ 0], rfl, congrArg some (e7z (by omega)), x5x⟩
 refine dv 7 fun K K' => ?_
 refine x4x (ι := Nat) (fun i γ1 => [(17, pI (i : Int))]) (fun i γ1 => []) (fun i => i ≤ l.length ∧ l.length = l'.length ∧ l.take i = l'.take i) (fun i => l.length - i) (q8q [1, 2, 15, 16] rfl) (u9u 0 rfl HE.nil) 0 ⟨by omega, by omega, rfl⟩ [] x6x x5x rfl fun i γ1 hi => ?_
 obtain ⟨h1, h2, h3⟩ := hi
 refine dc 3 (fun K K' => aS ?_ ?_)<;>intro j<;>try simp at j
 ·refine dv 4 ?_
  exact ⟨[γ 0], rfl, congrArg some (eqT h3 (by omega) (by omega)), x5x⟩
 obtain ⟨x, hx⟩ := gE l i
 obtain ⟨y, hy⟩ := gE l' i
 refine dv 19 fun K K' => ?_
 refine x0x rfl rfl rfl (a5c true true x y) (dc 1 (aI ?_ ?_))<;>intro hc7<;>try simp at hc7
 ·have hxy : ¬ x = y := by simpa [a1u] using hc7
  refine dv 3 ?_
  exact ⟨[γ 0], rfl, congrArg some (d7j hx hy hxy), x5x⟩
 have hxy : x = y := by simpa [a1u] using hc7
 refine dv 2 ?_
 refine x8x (b := 1) rfl rfl (by omega) (dv 1 ?_)
 exact ⟨i + 1, ⟨⟨by omega, h2, a4v h3 hx hy hxy⟩, by omega⟩, [], (x7x 17 rfl Cov.nil), (x7x 1 rfl (x7x 2 rfl (x7x 15 rfl (x7x 16 rfl Cov.nil)))), HE.nil, (u9u 0 rfl HE.nil), rfl⟩
theorem b3n (c : Bool) (n : Nd) (hw : wk n) : Meth Tryz.prog 173 5 [0, 1, 2, 3, 4] [.ptr 4 0 0] [(0, (0, .row 41 3 ((n.lanes).map fun l => s1s l.base))), (1, (0, .row 42 1 ((n.lanes).map fun l => [a6e c l.done]))), (2, (0, .map (b0k c n.views))), (3, (0, .row 3 1 (n.known.map a2w))), (4, (0, .box 164 [pI n.id, pI n.inc, pI n.g, pI n.led, .ref 0 0, q2q c n.kept, r0r c n.outs, .pv (.bool n.up), .ref 1 0, pI n.version, .mp 2 0, .ref 3 0, pI n.round, pI n.low]))] (.row (.rd true) 47 1 ((a0v n 3).map fun l => [q2q true l])) [] := by
 refine p3p v4v (fn := Tryz.f173) (by kernel_rfl) (by kernel_rfl) rfl (O0 := [.row (.rd true) 47 1 ((a0v n 3).map fun l => [q2q true l])]) 5 4 (s0s rfl) (by rfl) (by repeat (first | exact BndH.nil | refine BndH.box rfl ?_ | refine BndH.row (w1w fun _ => rfl) ?_ | refine BndH.map (a1g _ _) ?_ )) (by repeat (exact BndH.nil )) (by rfl) fun γ => ?_
 show Ex Tryz.prog _ _ [(0, .ptr 4 (γ 4) 0)] [(0, ((γ 0), .row 41 3 ((n.lanes).map fun l => s1s l.base))), (1, ((γ 1), .row 42 1 ((n.lanes).map fun l => [a6e c l.done]))), (2, ((γ 2), .map (b0k c n.views))), (3, ((γ 3), .row 3 1 (n.known.map a2w))), (4, ((γ 4), .box 164 [pI n.id, pI n.inc, pI n.g, pI n.led, .ref 0 (γ 0), q2q c n.kept, r0r c n.outs, .pv (.bool n.up), .ref 1 (γ 1), pI n.version, .mp 2 (γ 2), .ref 3 (γ 3), pI n.round, pI n.low])), (8, (0, .dead)), (7, (0, .dead)), (6, (0, .dead)), (5, (0, .dead))] _
 refine dv 8 fun K K' => ?_
 refine a3v 3 7 47 1 rfl rfl ?_
 refine x4x (ι := Nat) (fun i γ1 => [(3, .ref 7 (γ1 7)), (5, pI (i : Int))]) (fun i γ1 => [(7, ((γ1 7), .row 47 1 ((a0v n i).map fun l => [q2q true l]))), (8, ((γ1 8), .dead)), (5, ((γ1 5), .dead)), (6, ((γ1 6), .dead))]) (fun i => i ≤ 3) (fun i => 3 - i) (x7x 0 rfl Cov.nil) (a0o [0, 1, 2, 3, 4] rfl) 0 (by omega) [0, 0, 0, 0, 0, _, _, _, _] x6x (HE.row rfl (by rfl) (HE.kill rfl (HE.kill rfl (HE.kill rfl HE.nil)))) rfl fun i γ1 hi => ?_
 refine dc 3 (fun K K' => aS ?_ ?_)<;>intro j<;>try simp at j
 ·obtain rfl : i = 3 := by omega
  refine dv 1 ?_
  refine p8p 3 rfl rfl (fun _ => rfl) ?_
  refine dv 4 ?_
  exact ⟨[γ 0, γ 1, γ 2, γ 3, γ 4], rfl, rfl, x5x⟩
 have htl := d2x n i
 refine dc 14 (fun K K' => aS ?_ ?_)<;>intro hc5<;>try simp at hc5
 ·have hi0 : (i : Int) = n.id := hc5
  refine dv 2 ?_
  refine z8z rfl rfl rfl (dv 1 ?_)
  exact ⟨i + 1, ⟨by omega, by omega⟩, [0, 0, 0, 0, 0, _, _, _, _], (x7x 3 rfl (Cov.cons' (t := 5) rfl (by rw [x9x (by omega) (by omega)]; rfl) Cov.nil)), x6x, (HE.row rfl (by rw [d0b hi0]) (HE.kill rfl (HE.kill rfl (HE.kill rfl HE.nil)))), x5x, rfl⟩
 have hi0 : ¬ (i : Int) = n.id := hc5
 refine dv 4 ?_
 refine rlM [0, 1, 2, 3, 4, 8] [_, _, _, _, _, _] (b7z c n i (by omega) hw.2.2.2.1 (by have := c9y hw; omega) (by have := hw.1; omega)) rfl rfl rfl ?_
 refine a8y (id := 5) e9m rfl u4u rfl rfl rfl rfl rfl ?_
 refine y6y (zs := (a0v n i ++ [a1w n (i : Int)]).map fun l => [q2q true l]) rfl rfl e9m rfl u4u rfl rfl rfl rfl (by rfl) (z7z _ _ _) (by (simp only [a0e, r7r, a0c, a0d, a0r, T47]; omega)) ?_
 refine dv 2 ?_
 refine z8z rfl rfl rfl (dv 1 ?_)
 exact ⟨i + 1, ⟨by omega, by omega⟩, [0, 0, 0, 0, 0, _, _, _, _], (x7x 3 rfl (Cov.cons' (t := 5) rfl (by rw [x9x (by omega) (by omega)]; rfl) Cov.nil)), (x7x 0 rfl Cov.nil), (HE.row rfl (by rw [d0a hi0]) (HE.kill rfl (HE.kill rfl (HE.kill rfl HE.nil)))), (u9u 0 rfl (u9u 1 rfl (u9u 2 rfl (u9u 3 rfl (u9u 4 rfl HE.nil))))), rfl⟩
theorem b8a (c : Bool) (was n : Nd) (hw : wk n) (hv : was.version = n.version) (hb : 0 ≤ n.version ∧ n.version ≤ 9998) : Meth Tryz.prog 176 5 [0, 1, 2, 3, 4] [.ptr 4 0 0, .row (.rd true) 47 1 ((a0v was 3).map fun l => [q2q true l])] [(0, (0, .row 41 3 ((n.lanes).map fun l => s1s l.base))), (1, (0, .row 42 1 ((n.lanes).map fun l => [a6e c l.done]))), (2, (0, .map (b0k c n.views))), (3, (0, .row 3 1 (n.known.map a2w))), (4, (0, .box 164 [pI n.id, pI n.inc, pI n.g, pI n.led, .ref 0 0, q2q c n.kept, r0r c n.outs, .pv (.bool n.up), .ref 1 0, pI n.version, .mp 2 0, .ref 3 0, pI n.round, pI n.low]))] (.tup []) [(4, (0, .box 164 [pI n.id, pI n.inc, pI n.g, pI n.led, .ref 0 0, q2q c n.kept, r0r c n.outs, .pv (.bool n.up), .ref 1 0, pI (a4h was n 3), .mp 2 0, .ref 3 0, pI n.round, pI n.low]))] := by
 refine p3p v4v (fn := Tryz.f176) (by kernel_rfl) (by kernel_rfl) rfl (O0 := []) 5 1 (s0s rfl) (by rfl) (by repeat (first | exact BndH.nil | refine BndH.box rfl ?_ | refine BndH.row (w1w fun _ => rfl) ?_ | refine BndH.map (a1g _ _) ?_ )) (by repeat (first | exact BndH.nil | refine BndH.box rfl ?_ )) (by rfl) fun γ => ?_
 show Ex Tryz.prog _ _ [(0, .ptr 4 (γ 4) 0), (1, .row (.rd true) 47 1 ((a0v was 3).map fun l => [q2q true l]))] [(0, ((γ 0), .row 41 3 ((n.lanes).map fun l => s1s l.base))), (1, ((γ 1), .row 42 1 ((n.lanes).map fun l => [a6e c l.done]))), (2, ((γ 2), .map (b0k c n.views))), (3, ((γ 3), .row 3 1 (n.known.map a2w))), (4, ((γ 4), .box 164 [pI n.id, pI n.inc, pI n.g, pI n.led, .ref 0 (γ 0), q2q c n.kept, r0r c n.outs, .pv (.bool n.up), .ref 1 (γ 1), pI n.version, .mp 2 (γ 2), .ref 3 (γ 3), pI n.round, pI n.low])), (5, (0, .dead))] _
 refine dv 3 ?_
 refine rlM [0, 1, 2, 3, 4] [_, _, _, _, _] (b3n c n hw) rfl rfl rfl ?_
 refine rlM [5] [_] (a0k (a0v was 3) (a0v n 3)) rfl rfl rfl ?_
 refine dc 1 (aS ?_ ?_)<;>intro hc1<;>try simp at hc1
 ·have hq : a0v was 3 = a0v n 3 := hc1
  have hnum : a4h was n 3 = n.version := by unfold a4h; rw [if_pos hq]
  refine dv 1 ?_
  exact ⟨[γ 0, γ 1, γ 2, γ 3, γ 4], rfl, rfl, HE.box rfl (by rw [hnum]; rfl) (a0o [0, 1, 2, 3] rfl)⟩
 have hq : ¬ a0v was 3 = a0v n 3 := hc1
 have hnum : a4h was n 3 = n.version + 1 := by unfold a4h; rw [if_neg hq, hv]
 refine dv 5 ?_
 refine s5s (.int .i64 (n.version + 1)) rfl rfl rfl (a6p rfl rfl (by omega) (by omega)) ?_
 refine dv 3 ?_
 exact ⟨[γ 0, γ 1, γ 2, γ 3, γ 4], rfl, rfl, HE.box rfl (by rw [hnum]; rfl) (a0o [0, 1, 2, 3] rfl)⟩
end
section
theorem b5f (c : Bool) (n : Nd) (f inc ver g : Int) (es : List Ev) : Meth Tryz.prog 71 5 [] [.agg (u2u c n), .pv (.int .i64 f), .pv (.int .i64 inc), .pv (.int .i64 ver), .pv (.int .i64 g), q2q c es] [(0, (0, .dead)), (1, (0, .dead)), (2, (0, .dead)), (3, (0, .dead)), (4, (0, .dead))] (.agg [pI (u1u n f inc ver g es).id, .pv (.bool (u1u n f inc ver g es).up), pI (u1u n f inc ver g es).inc, pI (u1u n f inc ver g es).g, .ref 0 0, .ref 1 0, .ref 2 0, pI (u1u n f inc ver g es).led, pI (u1u n f inc ver g es).version, .ref 3 0, .ref 4 0, pI (u1u n f inc ver g es).round, pI (u1u n f inc ver g es).low]) [(0, (0, .row 44 5 ((u1u n f inc ver g es).lanes.map a9j))), (1, (0, .row 56 7 ((u1u n f inc ver g es).kept.map y9y))), (2, (0, .row 141 5 ((u1u n f inc ver g es).outs.map q5q))), (3, (0, .row 190 3 ((u1u n f inc ver g es).views.map a9k))), (4, (0, .row 3 1 ((u1u n f inc ver g es).known.map a2w)))] := by
 refine mX Tryz.f71 [.agg [pI (u1u n f inc ver g es).id, .pv (.bool (u1u n f inc ver g es).up), pI (u1u n f inc ver g es).inc, pI (u1u n f inc ver g es).g, .ref 0 0, .ref 1 0, .ref 2 0, pI (u1u n f inc ver g es).led, pI (u1u n f inc ver g es).version, .ref 3 0, .ref 4 0, pI (u1u n f inc ver g es).round, pI (u1u n f inc ver g es).low]] 5 9 fun γ => ?_
 refine dv 1 ?_
 refine y0y (id := 5) rfl rfl rfl (x3x (id := 6) v0v q0q rfl (dv 3 fun K K' => ?_))
 refine x0x rfl rfl rfl (b9y c n) (dc 1 (aI ?_ ?_))<;>intro hc2<;>try simp at hc2
 ·have fX : ¬ y5y n := a1o (by simpa using hc2)
  refine dv 1 ?_
  refine rlB v0v q0q ?_
  refine dv 1 ?_
  (rw [f0a fX]; refine a0h 6 4 0 44 5 rfl rfl rfl rfl rfl ?_; refine a0h 6 5 1 56 7 rfl rfl rfl rfl rfl ?_; refine a0h 6 6 2 141 5 rfl rfl rfl rfl rfl ?_; refine a0h 6 9 3 190 3 rfl rfl rfl rfl rfl ?_; refine a0h 6 10 4 3 1 rfl rfl rfl rfl rfl ?_)
  refine dv 1 ?_
  exact ⟨[_, _, _, _, _], rfl, rfl, x5x⟩
 have fK : y5y n := a1e.1 (by simpa using hc2)
 have fS := fK.1
 have fB := w7w fS
 have fV := fS.2.2.2.2.2.1
 have fQ := fS.2.2.2.2.2.2.1
 refine dv 9 fun K K' => ?_
 refine x0x rfl rfl rfl (c6b c c n f inc ver g es) (dc 1 (aI ?_ ?_))<;>intro hc4<;>try simp at hc4
 ·have fU : ¬ a2g n f inc ver g es := a1o (by simpa using hc4)
  refine dv 2 ?_
  refine rlM [0, 1, 2, 3, 4] [_, _, _, _, _] (a9u c n (by omega)) rfl rfl rfl ?_
  refine dv 1 ?_
  rw [b1x fK fU]
  refine dv 1 ?_
  exact ⟨[_, _, _, _, _], rfl, rfl, x5x⟩
 have fH : a2g n f inc ver g es := a1e.1 (by simpa using hc4)
 obtain ⟨k, rfl⟩ : ∃ k : Nat, f = (k : Int) := ⟨f.toNat, by have := fH.2.2.1; omega⟩
 have hk3 : k < 3 := by have := fH.2.2.1; omega
 obtain ⟨kn, hkn⟩ := gE n.known k
 obtain ⟨v, hv⟩ := gE n.views k
 have hes : es.length ≤ 100 := by have := (r3r fH.2.2.2.2.2.2.2.1).1; omega
 obtain ⟨M, hM⟩ : ∃ M, M = a9y n k inc ver g es := ⟨_, rfl⟩
 have hv9 : n.version ≤ 9998 := by have := fH.2.1; omega
 have hv0 := fS.1.2.2.2.2.1.1
 refine dv 3 ?_
 refine rlM [9, 10, 11, 12, 13] [_, _, _, _, _] (b9w c n (by omega) (by omega) fQ) rfl rfl rfl ?_
 refine dv 3 ?_
 refine rlM [9, 10, 11, 12, 13] [_, _, _, _, _] (b3n c n (d2v fS)) rfl rfl rfl ?_
 refine dv 12 ?_
 refine z0z (j := k) rfl rfl a0n rfl s3s rfl rfl (y8y hkn) ?_
 refine dv 2 ?_
 refine f5b (c := max kn g) rfl rfl (by rw [Int.max_def]; split <;> split <;> omega) ?_
 refine z0z (j := k) rfl rfl a0n rfl s3s rfl rfl (y8y hkn) ?_
 refine a8t (el' := max kn g) rfl rfl s3s rfl rfl rfl hkn rfl (by omega) (.val rfl rfl .nil) rfl rfl ?_
 refine dv 6 ?_
 refine a3x (κ := Int) (enc := fun n => .int .i64 n) (ks := b7u n.views.length) (k := (k : Int)) (out := .agg (a2c c v)) v4v Tryz.underlying162 (a9c Tryz.underlying3) rfl rfl (fun _ _ _ h => d4l h) rfl (a9p _ _) (b9r hv) ?_
 refine x3x (id := 7) r1r a4s rfl (dv 1 ?_)
 refine p7p (ι := Unit) (fun _i γ1 => []) (fun _i γ1 => [(9, ((0 + 1), .row 41 3 ((M.lanes).map fun l => s1s l.base))), (10, ((0 + 1), .row 42 1 ((M.lanes).map fun l => [a6e c l.done]))), (11, ((0 + 1), .map (b0k c M.views))), (12, ((0 + 1), .row 3 1 (M.known.map a2w))), (13, ((0 + 1), .box 164 [pI M.id, pI M.inc, pI M.g, pI M.led, .ref 9 (0 + 1), q2q c M.kept, r0r c M.outs, .pv (.bool M.up), .ref 10 (0 + 1), pI M.version, .mp 11 (0 + 1), .ref 12 (0 + 1), pI M.round, pI M.low]))]) (fun _i => True) (q8q [6, 12, 13, 14] rfl) (a0o [0, 1, 2, 3, 4, 5, 6, 7, 8] rfl) ?_ fun _i γ1 hi => ?_
 ·refine dc 6 (aS ?_ ?_)<;>intro o<;>try simp at o
  ·refine dv 11 ?_
   have hL : b4p v inc ver := .inl (by omega)
   refine dv 14 ?_
   refine x0x rfl rfl rfl (b0m c c v.events es n.g n.low) (dv 12 ?_)
   refine rlB r1r a4s ?_
   refine b4d (κ := Int) (enc := fun n => .int .i64 n) (ks := b7u n.views.length) (k := (k : Int)) (es' := b0k c (n.views.set k ⟨inc, ver, es⟩)) Tryz.underlying162 (a9c Tryz.underlying3) rfl rfl rfl (fun _ _ _ h => d4l h) rfl (a9p _ _) (.inl ⟨k, d0r (y8y hv), d8b _ _ _ _⟩) ?_
   exact ⟨(), trivial, [], x6x, x6x, (HE.row rfl (by rw [hM]; (rw [s8s hv hkn hL] <;> rfl)) (HE.row rfl (by rw [hM]; (rw [s8s hv hkn hL] <;> rfl)) (HE.map rfl (by rw [hM]; (rw [s8s hv hkn hL] <;> rfl)) (HE.row rfl (by rw [hM]; (rw [s8s hv hkn hL] <;> rfl)) (HE.box rfl (by rw [hM]; (rw [s8s hv hkn hL] <;> rfl)) HE.nil))))), x5x, rfl⟩
  refine dc 5 (aS ?_ ?_)<;>intro o<;>try simp at o
  ·refine dv 6 ?_
   have hL : ¬ b4p v inc ver := by rintro (q | ⟨q1, q2⟩) <;> omega
   refine dv 1 ?_
   exact ⟨(), trivial, [], x6x, x6x, (HE.row rfl (by rw [hM]; (rw [a1q hv hkn hL] <;> rfl)) (HE.row rfl (by rw [hM]; (rw [a1q hv hkn hL] <;> rfl)) (HE.map rfl (by rw [hM]; (rw [a1q hv hkn hL] <;> rfl)) (HE.row rfl (by rw [hM]; (rw [a1q hv hkn hL] <;> rfl)) (HE.box rfl (by rw [hM]; (rw [a1q hv hkn hL] <;> rfl)) HE.nil))))), x5x, rfl⟩
  refine dc 6 (aS ?_ ?_)<;>intro o<;>try simp at o
  ·have hL : ¬ b4p v inc ver := by rintro (q | ⟨q1, q2⟩) <;> omega
   refine dv 1 ?_
   exact ⟨(), trivial, [], x6x, x6x, (HE.row rfl (by rw [hM]; (rw [a1q hv hkn hL] <;> rfl)) (HE.row rfl (by rw [hM]; (rw [a1q hv hkn hL] <;> rfl)) (HE.map rfl (by rw [hM]; (rw [a1q hv hkn hL] <;> rfl)) (HE.row rfl (by rw [hM]; (rw [a1q hv hkn hL] <;> rfl)) (HE.box rfl (by rw [hM]; (rw [a1q hv hkn hL] <;> rfl)) HE.nil))))), x5x, rfl⟩
  have hL : b4p v inc ver := .inr ⟨by omega, by omega⟩
  refine dv 14 ?_
  refine x0x rfl rfl rfl (b0m c c v.events es n.g n.low) (dv 12 ?_)
  refine rlB r1r a4s ?_
  refine b4d (κ := Int) (enc := fun n => .int .i64 n) (ks := b7u n.views.length) (k := (k : Int)) (es' := b0k c (n.views.set k ⟨inc, ver, es⟩)) Tryz.underlying162 (a9c Tryz.underlying3) rfl rfl rfl (fun _ _ _ h => d4l h) rfl (a9p _ _) (.inl ⟨k, d0r (y8y hv), d8b _ _ _ _⟩) ?_
  exact ⟨(), trivial, [], x6x, x6x, (HE.row rfl (by rw [hM]; (rw [s8s hv hkn hL] <;> rfl)) (HE.row rfl (by rw [hM]; (rw [s8s hv hkn hL] <;> rfl)) (HE.map rfl (by rw [hM]; (rw [s8s hv hkn hL] <;> rfl)) (HE.row rfl (by rw [hM]; (rw [s8s hv hkn hL] <;> rfl)) (HE.box rfl (by rw [hM]; (rw [s8s hv hkn hL] <;> rfl)) HE.nil))))), x5x, rfl⟩
 ·try dsimp only [b1d, b1e]
  obtain ⟨w1, w2, w3⟩ := d0c n k inc ver g es
  rw [← hM] at w1 w2 w3
  have hwM : wk M := by rw [hM]; exact d7i (d2v fS) hes
  have hpcM : M.lanes.length = (q1q M.id 4).length := by rw [w1, w3]; exact fS.2.2.2.2.1
  have hwA : wk (nl M (w2w M M.lanes)) := c2v _ (Nat.le_refl _) hwM
  have hLA : (w2w M M.lanes).length ≤ 4 := hwA.1
  refine dv 2 ?_
  refine rlM [9, 10, 11, 12, 13] [_, _, _, _, _] (c1q c M hwM hpcM) rfl rfl rfl ?_
  refine dv 3 ?_
  refine rlM [9, 10, 11, 12, 13] [_, _, _, _, _] (b8a c n (nl M (w2w M M.lanes)) hwA w2.symm ⟨by rw [show ((nl M (w2w M M.lanes)) : Nd).version = M.version from rfl, w2]; omega, by rw [show ((nl M (w2w M M.lanes)) : Nd).version = M.version from rfl, w2]; omega⟩) rfl rfl rfl ?_
  refine dv 3 ?_
  refine rlM [9, 10, 11, 12, 13, 0, 1, 2, 3, 4] [_, _, _, _, _, _, _, _, _, _] (c7i c n (a6t n M) (by omega) (by show (w2w M M.lanes).length ≤ 1048576; omega) (fun i l h => hwA.2.2.2.2.2.2 i l h) hwA.2.2.1) rfl rfl rfl ?_
  refine dv 3 ?_
  refine x3x (id := 8) v0v q0q rfl (dv 5 ?_)
  rw [d2y fK fH, ← hM]
  refine dv 1 ?_
  exact ⟨[_, _, _, _, _], rfl, rfl, x5x⟩
end
section
theorem b8c {n : Nd} (h : y5y n) : ∀ i, a9x n n.lanes i = false
 | 0 => rfl
 | i + 1 => by
  have ih := b8c h i
  rw [b1w, ih, b9k n n.lanes i ih, Bool.false_or]
  cases hl : n.lanes[i]? with
  | none => exact (e3f hl).2
  | some l =>
   refine (c9z hl ?_).2
   have := (b9j h hl).2.2.2
   show ¬ same l.done (a1f n l.proc) < l.done.length
   omega
variable {n : Nd}
theorem e5s (h : y5y n) : w2w n n.lanes = n.lanes := by
 rw [← b5r (b8c h n.lanes.length), b9k n n.lanes _ (b8c h n.lanes.length)]
variable {a : Nd}
theorem e5t (h : y5y a) : a6t a a = a := by
 have e : nl a (w2w a a.lanes) = a := by rw [e5s h]; rfl
 unfold a6t
 rw [e]
 have : a4h a a 3 = a.version := if_pos rfl
 rw [this]
theorem e5u (h : y5y n) {k : Nat} (hk : k ≤ 2) (inc ver g : Int) (es : List Ev) (hv : a.views = (a9y n k inc ver g es).views) (hkn : a.known = (a9y n k inc ver g es).known) : a9y a k inc ver g es = a := by
 have h3 := h.1.2.2.2.2.2.1
 have hk3 := h.1.2.2.2.2.2.2.1
 obtain ⟨v, hv0⟩ : ∃ v, n.views[k]? = some v := ⟨_, List.getElem?_eq_getElem (by omega)⟩
 obtain ⟨q, hq0⟩ : ∃ q, n.known[k]? = some q := ⟨_, List.getElem?_eq_getElem (by omega)⟩
 have hkk : a.known[k]? = some (max q g) ∧ a.known.set k (max (max q g) g) = a.known := by
  have e : a.known = n.known.set k (max q g) := by
   rw [hkn]
   by_cases l : b4p v inc ver
   ·rw [s8s hv0 hq0 l]
   ·rw [a1q hv0 hq0 l]
  have e2 : max (max q g) g = max q g := by omega
  rw [e, e2]
  refine ⟨?_, ?_⟩
  ·rw [List.getElem?_set_self (by omega)]
  ·rw [List.set_set]
 have hvv : ∃ u, a.views[k]? = some u ∧ ¬ b4p u inc ver := by
  by_cases l : b4p v inc ver
  ·rw [hv, s8s hv0 hq0 l]
   refine ⟨⟨inc, ver, es⟩, ?_, ?_⟩
   ·show (n.views.set k ⟨inc, ver, es⟩)[k]? = _
    rw [List.getElem?_set_self (by omega)]
   ·unfold b4p; show ¬ (inc < inc ∨ (inc = inc ∧ ver < ver)); omega
  ·rw [hv, a1q hv0 hq0 l]; exact ⟨v, hv0, l⟩
 obtain ⟨u, hu, hl⟩ := hvv
 rw [a1q hu hkk.1 hl, hkk.2]
theorem d9u (n : Nd) (f inc ver g : Int) (es : List Ev) (h : y5y n) : u1u (u1u n f inc ver g es) f inc ver g es = u1u n f inc ver g es := by
 by_cases h2 : a2g n f inc ver g es
 ·obtain ⟨k, rfl⟩ := Int.eq_ofNat_of_zero_le h2.2.2.1.1
  have hk : k ≤ 2 := by have := h2.2.2.1.2; omega
  have e := d2y h h2
  by_cases ho : y5y (a6t n (a9y n k inc ver g es))
  ·rw [b1s ho] at e
   rw [e]
   by_cases h3 : a2g (a6t n (a9y n k inc ver g es)) k inc ver g es
   ·rw [d2y ho h3, e5u h hk inc ver g es (a := a6t n (a9y n k inc ver g es)) rfl rfl, e5t ho, b1s ho]
   ·exact b1x ho h3
  ·rw [b4o ho] at e
   rw [e]; exact e
 ·rw [b1x h h2]; exact b1x h h2
end
section
theorem c0d (bs : List Nat) (hbs : ∀ b ∈ bs, b < 256)  : a0q Tryz.prog 12 [v8v true bs] (.pv (.bool (true))) := by
 refine pX Tryz.f12 [.pv (.bool (true))] 13 ?_
 refine dc 7 (fun K K' => aI ?_ ?_)<;>intro h<;>try simp at h
 ·refine dv 3 ?_
  refine x2x rfl ?_ rfl
  rfl
 refine dv 1 ?_
 refine a0i fun B X0 w0 => ?_
 refine txR 1 rfl rfl (dv 1 ?_)
 refine txM [] [] (b7w bs hbs) rfl rfl rfl rfl fun j hj => ?_
 obtain ⟨n, ⟨f, inc, ver, g⟩, es⟩ := j
 dsimp only at hj ⊢
 refine txR 14 rfl rfl (dv 7 ?_)
 refine x3x (id := 0) v0v q0q rfl (dv 6 ?_)
 refine u3u rfl (dv 7 ?_)
 refine x0x rfl rfl rfl (b5d true n f inc ver g es) (x3x (id := 1) v0v q0q rfl (dv 8 ?_))
 refine rlM [3, 4, 5, 6, 7] [_, _, _, _, _] (b5f true n f inc ver g es) rfl rfl rfl ?_
 refine x3x (id := 2) v0v q0q rfl (dv 2 fun K K' => ?_)
 refine v9v (b := c0g true (u1u n f inc ver g es).lanes) 2 4 rfl rfl rfl (.ref rfl (Le.ow_map2 _ (fun _ => rfl) e3o) .nil) rfl rfl rfl rfl ?_
 refine v9v (b := q2q true (u1u n f inc ver g es).kept) 2 5 rfl rfl rfl (.ref rfl (Le.ow_map _ (fun _ => rfl) (fun _ => rfl)) .nil) rfl rfl rfl rfl ?_
 refine v9v (b := r0r true (u1u n f inc ver g es).outs) 2 6 rfl rfl rfl (.ref rfl (Le.ow_map _ (fun _ => rfl) (fun _ => rfl)) .nil) rfl rfl rfl rfl ?_
 refine v9v (b := c1z true (u1u n f inc ver g es).views) 2 9 rfl rfl rfl (.ref rfl (Le.ow_map2 _ (fun _ => rfl) e3p) .nil) rfl rfl rfl rfl ?_
 refine v9v (b := a4p true (u1u n f inc ver g es).known) 2 10 rfl rfl rfl (.ref rfl (Le.ow_map _ (fun _ => rfl) (fun _ => rfl)) .nil) rfl rfl rfl rfl ?_
 refine dv 3 ?_
 refine x0x rfl rfl rfl (b3c true true (u1u n f inc ver g es) (u1u n f inc ver g es)) ?_
 refine dv 2 ?_
 refine e6o rfl rfl (fun hg4 => ?_) (fun hg4 => ?_)
 rotate_left
 ·(simp at hg4; done)
 try simp at hg4
 refine dv 1 ?_
 refine x0x rfl rfl rfl (p1p true n) (dc 2 (aI ?_ ?_))<;>intro hc5<;>try simp at hc5
 ·refine dv 3 ?_
  refine x0x rfl rfl rfl (b3c true true (u1u n f inc ver g es) (u1u n f inc ver g es)) ?_
  refine dv 2 ?_
  refine x2x rfl ?_ rfl
  (simp; done)
 have fK : y5y n := a1e.1 (by simpa using hc5)
 have hag := d9u n f inc ver g es fK
 refine dv 8 ?_
 refine rlM [8, 9, 10, 11, 12] [_, _, _, _, _] (b5f true (u1u n f inc ver g es) f inc ver g es) rfl rfl rfl ?_
 refine dv 1 ?_
 refine b4a rfl rfl rfl (f5j (n := u1u (u1u n f inc ver g es) f inc ver g es) rfl rfl rfl rfl rfl (.agg rfl (.cl rfl (.cl rfl (.cl rfl (.cl rfl (.cl rfl (.cl rfl (.cl rfl (.cl rfl (.cl rfl (.cl rfl (.cl rfl (.cl rfl (.cl rfl .nil))))))))))))) .nil)) (b3c false true (u1u (u1u n f inc ver g es) f inc ver g es) (u1u n f inc ver g es)) (.pv _) ?_
 refine dv 2 ?_
 refine x2x rfl ?_ rfl
 exact congrArg (fun b : Bool => [AV.pv (.bool b)]) (decide_eq_true hag)
end
section
def X0 (w : World) : Cx := ⟨fun b => b < w.heap.size, fun b => b < w.heap.size, fun _ _ => none, fun _ _ => none⟩
theorem e9g (w : World) : SRh (X0 w) ⟨w, fun _ => False, fun b => b < w.heap.size, fun b => b < w.heap.size⟩ (fun _ => none) w := by
 refine ⟨fun _ => [], ?_, ?_, ?_, ?_, ?_, ?_, ?_, ?_, ?_, rfl, rfl, rfl, Nat.le_refl _, fun _ _ _ => rfl⟩
 ·intro id g e h; cases h
 ·intro id ge b h; cases h
 ·intro id id' ge ge' b h; cases h
 ·intro b hb; exact ⟨hb, fun id ge h => by cases h⟩
 ·intro b hb; exact hb
 ·intro b hb; exact .inl hb
 ·intro b hb; exact .inl hb
 ·intro id ge b h; cases h
 ·intro id g h; exact ⟨rfl, rfl⟩
theorem d5r (hC : a0q P f avs (.pv u)) (w : World) (vs : List Value) (hl : vs.length = avs.length) (hr : ∀ (i : Nat) (a : AV) (v : Value), avs[i]? = some a → vs[i]? = some v → VR (X0 w) w a v) :
  Calls P f vs.toArray w fun e w' => e = .returned u ∧ Below w.heap.size w w' :=
 (hC.2 (X0 w) _ (fun _ => none) w vs (e9g w) hl hr (fun id ge h => by cases h)).mono fun e w' ⟨v, he, X', hX, hS, hk, hv⟩ => by
  rw [hv.pv_inv] at he
  obtain ⟨F, hS⟩ := hS
  exact ⟨he, hS.os, hS.tape, hS.output, hS.size, fun k hk => hS.keep k hk (fun h => h)⟩
def f3w (k : IntKind) (w : World) (a : Option Addr) (len cap : Nat) (zs : List Int) : Prop :=
 (a = none ∧ len = 0 ∧ cap = 0 ∧ zs = []) ∨
 ∃ x, a = some x ∧ len ≤ cap ∧ cap ≤ maxLen ∧ zs.length = cap ∧ (∀ i, i < zs.length → w.cell? (x.add i) = some (.int k (zs.getD i 0))) ∧ ∀ n ∈ zs, (Lit.int k n).wf = true
theorem e5v (h : f3w .u8 w a len cap zs) : ∃ bs : List Nat, (∀ b ∈ bs, b < 256) ∧ VR (X0 w) w (v8v true bs) (.slice a len cap) := by
 rcases h with ⟨rfl, rfl, rfl, rfl⟩ | ⟨x, rfl, hl, hm, hz, hc, hw⟩
 ·exact ⟨[], (fun b hb => by cases hb), .cl (.row none 0 (fun _ _ => undef) (Nat.le_refl _) (Nat.zero_le _) (fun j x hx => by simp at hx) (fun j i x y hx => by simp at hx) (fun h => by simp at h) (fun ad j i x y hA => by cases hA) (fun j i x y hx => by simp at hx))⟩
 ·have hb : ∀ n ∈ zs, 0 ≤ n ∧ n < 256 := fun n hn => by
   have := hw n hn
   simp only [Lit.wf, Bool.and_eq_true, decide_eq_true_eq, IntKind.min, IntKind.max] at this
   simp [IntKind.signed, IntKind.bits] at this
   omega
  refine ⟨(zs.take len).map Int.toNat, fun b hb' => ?_, ?_⟩
  ·obtain ⟨n, hn, rfl⟩ := List.mem_map.1 hb'
   have := hb n (List.mem_of_mem_take hn)
   omega
  ·have hlen : ((zs.take len).map Int.toNat).length = len := by rw [List.length_map, List.length_take]; omega
   have hg : ∀ (j : Nat) (y : List AV), (((zs.take len).map Int.toNat).map f6u)[j]? = some y → j < len ∧ ∃ n, zs[j]? = some n ∧ y = [.pv (.int .u8 n)] := fun j y hy => by
    rw [List.getElem?_map, List.getElem?_map, List.getElem?_take] at hy
    split at hy
    ·rename_i hj
     cases hn : zs[j]? with
     | none => rw [hn] at hy; cases hy
     | some n =>
      rw [hn] at hy
      refine ⟨hj, n, rfl, ?_⟩
      have h0 := hb n (List.mem_of_getElem? hn)
      simp only [Option.map_some, Option.some.injEq] at hy
      rw [← hy, f6u, Int.toNat_of_nonneg h0.1]
    ·cases hy
   have key := CR.row (ok1 := (X0 w).ok1) (ok2 := (X0 w).ok2) (w := w) (m := true) (ty := 5) (sz := 1) (xs := ((zs.take len).map Int.toNat).map f6u) (some x) cap (fun j _ => .int .u8 (zs.getD j 0))
    (by rw [List.length_map, hlen]; exact hl) hm (fun j y hy => by obtain ⟨_, n, _, rfl⟩ := hg j y hy; rfl)
    (fun j i y z hy hz' => by
     obtain ⟨_, n, _, rfl⟩ := hg j y hy
     cases i with
     | zero => simp at hz'; subst hz'; rfl
     | succ i => simp at hz')
    (fun hp => ⟨x, rfl, by
     rw [List.length_map, hlen] at hp
     have := hc 0 (by omega)
     have h2 := World.block_lt_of_cell? w _ this
     show x.block < w.heap.size
     simpa [Addr.add] using h2⟩)
    (fun ad j i y z hA hy hz' => by
     cases hA
     obtain ⟨hj, n, hn, rfl⟩ := hg j y hy
     cases i with
     | zero =>
      have := hc j (by omega)
      simpa using this
     | succ i => simp at hz')
    (fun j i y z hy hz' => by
     obtain ⟨hj, n, hn, rfl⟩ := hg j y hy
     cases i with
     | zero =>
      simp at hz'; subst hz'
      rw [List.getD_eq_getElem?_getD, hn]
      exact .pv _
     | succ i => simp at hz')
   rw [List.length_map, hlen] at key
   exact .cl key
end
end Go.Proofs.YtlgknoapdbpojaaGreat.Am
