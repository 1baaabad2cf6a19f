/- Part 6 of the texts that the proof of LawFnNodeView leans on, merged by program. -/
import Derived.Test.YtlgknoapdbpojaaGreatKv5
set_option linter.unusedVariables false
set_option linter.unusedSimpArgs false
set_option maxHeartbeats 4000000
set_option autoImplicit true
set_option relaxedAutoImplicit true
namespace Go.Proofs.YtlgknoapdbpojaaGreat.Am
open Go Go.RowKit
section
theorem b0m (c : Bool) (n : Nd) (es : List (Value × AV)) (hes : ∀ p ∈ es, p.2.flatA = true) (i : Nat) (l : La) (hl : n.lanes[i]? = some l) (hp : (q2q n.id 4)[i]? = some l.proc) : Meth Tryz.prog 242 5 [0, 1, 2, 3, 4] [.ptr 4 0 0, .pv (.int .i64 (i : Int))] [(0, (0, .row 41 3 ((n.lanes).map fun l => s1s l.base))), (1, (0, .row 42 1 ((n.lanes).map fun l => [a6f c l.done]))), (2, (0, .map es)), (3, (0, .row 3 1 (n.known.map a3e))), (4, (0, .box 164 [pI n.id, pI n.inc, pI n.g, pI n.led, .ref 0 0, q3q c n.kept, r0r c n.outs, .pv (.bool n.up), .ref 1 0, pI n.version, .mp 2 0, .ref 3 0, pI n.round, pI n.low]))] (.agg (q7q c l)) [] := by
 refine p4p v3v (fn := Tryz.f242) (by kernel_rfl) (by kernel_rfl) rfl (O0 := [.agg (q7q c l)]) 5 1 (s0s rfl) (by rfl) (by repeat (first | exact BndH.nil | refine BndH.box rfl ?_ | refine BndH.row (w2w fun _ => rfl) ?_ | refine BndH.map hes ?_ )) (by repeat (exact BndH.nil )) (by rfl) fun γ => ?_
 show Ex Tryz.prog _ _ [(0, .ptr 4 (γ 4) 0), (1, .pv (.int .i64 (i : Int)))] [(0, ((γ 0), .row 41 3 ((n.lanes).map fun l => s1s l.base))), (1, ((γ 1), .row 42 1 ((n.lanes).map fun l => [a6f c l.done]))), (2, ((γ 2), .map es)), (3, ((γ 3), .row 3 1 (n.known.map a3e))), (4, ((γ 4), .box 164 [pI n.id, pI n.inc, pI n.g, pI n.led, .ref 0 (γ 0), q3q c n.kept, r0r c n.outs, .pv (.bool n.up), .ref 1 (γ 1), pI n.version, .mp 2 (γ 2), .ref 3 (γ 3), pI n.round, pI n.low])), (5, (0, .dead))] _
 refine dv 1 ?_
 refine x3x (id := 5) a0m a6r rfl (dv 6 ?_)
 refine x0x rfl rfl rfl (a7d ..) (dv 9 ?_)
 refine z0z (j := i) rfl rfl d6j rfl a5s rfl rfl (y7y hl) ?_
 refine dv 6 ?_
 refine z0z (j := i) rfl rfl b8q rfl a6q rfl rfl (y7y hl) ?_
 refine dv 1 ?_
 refine rlB a0m a6r ?_
 refine dv 2 ?_
 exact ⟨[γ 0, γ 1, γ 2, γ 3, γ 4], rfl, rfl, x5x⟩
theorem b9y (c : Bool) (n : Nd) (hlen : n.lanes.length ≤ 1048576) (hN : ∀ (i : Nat) l, n.lanes[i]? = some l → (q2q n.id 4)[i]? = some l.proc) (hv3 : n.views.length = 3) : Meth Tryz.prog 159 7 [0, 1, 2, 3, 4] [.ptr 4 0 0] [(0, (0, .row 41 3 ((n.lanes).map fun l => s1s l.base))), (1, (0, .row 42 1 ((n.lanes).map fun l => [a6f c l.done]))), (2, (0, .map (b0l c n.views))), (3, (0, .row 3 1 (n.known.map a3e))), (4, (0, .box 164 [pI n.id, pI n.inc, pI n.g, pI n.led, .ref 0 0, q3q c n.kept, r0r c n.outs, .pv (.bool n.up), .ref 1 0, pI n.version, .mp 2 0, .ref 3 0, pI n.round, pI n.low])), (5, (0, .dead)), (6, (0, .dead))] (.agg [pI n.id, .pv (.bool n.up), pI n.inc, pI n.g, .ref 5 0, q3q c n.kept, r0r c n.outs, pI n.led, pI n.version, .ref 6 0, .ref 3 0, pI n.round, pI n.low]) [(5, (0, .row 44 5 ((n.lanes).map (q7q c)))), (6, (0, .row 190 3 (n.views.map (a2b c))))] := by
 refine p4p v3v (fn := Tryz.f159) (by kernel_rfl) (by kernel_rfl) rfl (O0 := [.agg [pI n.id, .pv (.bool n.up), pI n.inc, pI n.g, .ref 5 0, q3q c n.kept, r0r c n.outs, pI n.led, pI n.version, .ref 6 0, .ref 3 0, pI n.round, pI n.low]]) 7 6 (s0s rfl) (by rfl) (by repeat (first | exact BndH.nil | refine BndH.dead ?_ | refine BndH.box rfl ?_ | refine BndH.row (w2w fun _ => rfl) ?_ | refine BndH.map (a1i _ _) ?_ )) (by repeat (first | exact BndH.nil | refine BndH.row (w2w fun _ => rfl) ?_ )) (by rfl) fun γ => ?_
 show Ex Tryz.prog _ _ [(0, .ptr 4 (γ 4) 0)] [(0, ((γ 0), .row 41 3 ((n.lanes).map fun l => s1s l.base))), (1, ((γ 1), .row 42 1 ((n.lanes).map fun l => [a6f c l.done]))), (2, ((γ 2), .map (b0l c n.views))), (3, ((γ 3), .row 3 1 (n.known.map a3e))), (4, ((γ 4), .box 164 [pI n.id, pI n.inc, pI n.g, pI n.led, .ref 0 (γ 0), q3q c n.kept, r0r c n.outs, .pv (.bool n.up), .ref 1 (γ 1), pI n.version, .mp 2 (γ 2), .ref 3 (γ 3), pI n.round, pI n.low])), (5, ((γ 5), .dead)), (6, ((γ 6), .dead)), (12, (0, .dead)), (11, (0, .dead)), (10, (0, .dead)), (9, (0, .dead)), (8, (0, .dead)), (7, (0, .dead))] _
 refine dv 1 ?_
 refine x3x (id := 7) u9u q1q rfl (dv 51 ?_)
 refine rlB u9u q1q ?_
 refine x3x (id := 8) u9u q1q rfl (dv 11 fun K K' => ?_)
 refine a0h 8 4 5 44 5 rfl rfl rfl rfl rfl ?_
 refine x4x (ι := Nat) (fun i γ1 => [(63, pI (i : Int))]) (fun i γ1 => [(5, ((γ1 5), .row 44 5 ((n.lanes.take i).map (q7q c)))), (8, ((0 + 1), .box 65 [pI n.id, .pv (.bool n.up), pI n.inc, pI n.g, .ref 5 (γ1 5), q3q c n.kept, r0r c n.outs, pI n.led, pI n.version, .pv (.slice none 0 0), .ref 3 (γ 3), pI n.round, pI n.low])), (9, ((γ1 9), .dead)), (10, ((γ1 10), .dead))]) (fun i => i ≤ n.lanes.length) (fun i => n.lanes.length - i) (q6q [0, 2, 3, 62] rfl) (a0p [0, 1, 2, 3, 4, 6, 7, 11, 12] rfl) 0 (by omega) [0, 0, 0, 0, 0, _, 0, 0, 0, _, _] x6x (HE.row rfl (by rw [List.take_zero]; rfl) (HE.box rfl rfl (HE.kill rfl (HE.kill rfl HE.nil)))) rfl fun i γ1 hi => ?_
 refine dc 3 (fun K K' => aI ?_ ?_)<;>intro o<;>try simp at o
 ·obtain ⟨l, hl⟩ := gE n.lanes i
  refine dv 11 fun K K' => ?_
  refine rlM [0, 1, 2, 3, 4] [_, _, _, _, _] (b0m c n _ (a1i _ _) i l hl (hN i l hl)) rfl rfl rfl ?_
  refine y2y (id := 9) a7v rfl a0m rfl rfl rfl rfl rfl rfl ?_
  refine y6y (zs := (n.lanes.take i ++ [l]).map (q7q c)) rfl rfl a7v rfl a0m rfl rfl rfl rfl (by rfl) (z7z _ _ _) (by (simp only [a0e, r7r, a0b, a0d, a0u, a2z, T44]; omega)) ?_
  refine dv 3 ?_
  refine z8z rfl rfl rfl (dv 1 ?_)
  exact ⟨i + 1, ⟨by omega, by omega⟩, [0, 0, 0, 0, 0, _, 0, 0, 0, _, _], (Cov.cons' (t := 63) rfl (by rw [x9x (by omega) (by omega)]; rfl) Cov.nil), x6x, (HE.row rfl (by simp only [z6z hl, List.map_append, List.map_cons, List.map_nil]) (HE.box rfl rfl (HE.kill rfl (HE.kill rfl HE.nil)))), x5x, rfl⟩
 obtain rfl : i = n.lanes.length := by omega
 rw [List.take_length]
 refine dv 5 fun K K' => ?_
 refine a0h 8 9 6 190 3 rfl rfl rfl rfl rfl ?_
 refine x4x (ι := Nat) (fun i γ2 => [(75, pI (i : Int))]) (fun i γ2 => [(6, ((γ2 6), .row 190 3 ((n.views.take i).map (a2b c)))), (8, ((0 + 1), .box 65 [pI n.id, .pv (.bool n.up), pI n.inc, pI n.g, .ref 5 (γ1 5), q3q c n.kept, r0r c n.outs, pI n.led, pI n.version, .ref 6 (γ2 6), .ref 3 (γ 3), pI n.round, pI n.low])), (11, ((γ2 11), .dead)), (12, ((γ2 12), .dead))]) (fun i => i ≤ 3) (fun i => 3 - i) (q6q [0, 2, 3] rfl) (a0p [0, 1, 2, 3, 4, 5, 7, 9, 10] rfl) 0 (by omega) [0, 0, 0, 0, 0, 0, _, 0, 0, 0, 0, _, _] x6x (HE.row rfl (by rfl) (HE.box rfl rfl (HE.kill rfl (HE.kill rfl HE.nil)))) rfl fun i γ2 hi => ?_
 refine dc 3 (fun K K' => aS ?_ ?_)<;>intro o<;>try simp at o
 ·obtain rfl : i = 3 := by omega
  refine dv 5 ?_
  exact ⟨[γ 0, γ 1, γ 2, γ 3, γ 4, _, _], rfl, rfl, HE.row rfl rfl (HE.row rfl (by rw [List.take_of_length_le (by omega)]) (a0p [0, 1, 2, 3, 4] rfl))⟩
 obtain ⟨v, hv⟩ := gE n.views i
 refine dv 14 fun K K' => ?_
 refine a3x (κ := Int) (enc := fun n => .int .i64 n) (ks := b7x n.views.length) (k := (i : Int)) (out := .agg (a2b c v)) v3v Tryz.underlying162 (a9f Tryz.underlying3) rfl rfl (fun _ _ _ h => d4m h) rfl (a9s _ _) (b9r hv) ?_
 refine y2y (id := 11) a9y rfl r1r rfl rfl rfl rfl rfl rfl ?_
 refine y6y (zs := (n.views.take i).map (a2b c) ++ [a2b c v]) rfl rfl a9y rfl r1r rfl rfl rfl rfl (by rfl) rfl (by simp only [r7r, a0e, a2z, a0u, a0b, a0d, T190]; omega) ?_
 refine dv 3 ?_
 refine z8z rfl rfl rfl (dv 1 ?_)
 exact ⟨i + 1, ⟨by omega, by omega⟩, [0, 0, 0, 0, 0, 0, _, 0, 0, 0, 0, _, _], (Cov.cons' (t := 75) rfl (by rw [x9x (by omega) (by omega)]; rfl) Cov.nil), x6x, (HE.row rfl (by rw [z6z hv, List.map_append]; rfl) (HE.box rfl rfl (HE.kill rfl (HE.kill rfl HE.nil)))), x5x, rfl⟩
end
section
theorem c7j (c : Bool) (n0 n : Nd) (h0 : cNd n0 ≤ 1048576) (hlen : n.lanes.length ≤ 1048576) (hN : ∀ (i : Nat) l, n.lanes[i]? = some l → (q2q n.id 4)[i]? = some l.proc) (hv3 : n.views.length = 3) : Meth Tryz.prog 166 10 [0, 1, 2, 3, 4] [.agg (u1u c n0), .ptr 4 0 0] [(0, (0, .row 41 3 ((n.lanes).map fun l => s1s l.base))), (1, (0, .row 42 1 ((n.lanes).map fun l => [a6f c l.done]))), (2, (0, .map (b0l c n.views))), (3, (0, .row 3 1 (n.known.map a3e))), (4, (0, .box 164 [pI n.id, pI n.inc, pI n.g, pI n.led, .ref 0 0, q3q c n.kept, r0r c n.outs, .pv (.bool n.up), .ref 1 0, pI n.version, .mp 2 0, .ref 3 0, pI n.round, pI n.low])), (5, (0, .dead)), (6, (0, .dead)), (7, (0, .dead)), (8, (0, .dead)), (9, (0, .dead))] (.tup [.agg [pI (s7s n0 n).1.id, .pv (.bool (s7s n0 n).1.up), pI (s7s n0 n).1.inc, pI (s7s n0 n).1.g, .ref 5 0, .ref 6 0, .ref 7 0, pI (s7s n0 n).1.led, pI (s7s n0 n).1.version, .ref 8 0, .ref 9 0, pI (s7s n0 n).1.round, pI (s7s n0 n).1.low], .pv (.bool ((s7s n0 n).2))]) [(5, (0, .row 44 5 ((s7s n0 n).1.lanes.map b1w))), (6, (0, .row 56 7 ((s7s n0 n).1.kept.map y9y))), (7, (0, .row 141 5 ((s7s n0 n).1.outs.map q8q))), (8, (0, .row 190 3 ((s7s n0 n).1.views.map b1x))), (9, (0, .row 3 1 ((s7s n0 n).1.known.map a3e)))] := by
 refine p4p v3v (fn := Tryz.f166) (by kernel_rfl) (by kernel_rfl) rfl (O0 := [.agg [pI (s7s n0 n).1.id, .pv (.bool (s7s n0 n).1.up), pI (s7s n0 n).1.inc, pI (s7s n0 n).1.g, .ref 5 0, .ref 6 0, .ref 7 0, pI (s7s n0 n).1.led, pI (s7s n0 n).1.version, .ref 8 0, .ref 9 0, pI (s7s n0 n).1.round, pI (s7s n0 n).1.low], .pv (.bool ((s7s n0 n).2))]) 10 5 (s0s rfl) (by rfl) (by repeat (first | exact BndH.nil | refine BndH.dead ?_ | refine BndH.box rfl ?_ | refine BndH.row (w2w fun _ => rfl) ?_ | refine BndH.map (a1i _ _) ?_ )) (by repeat (first | exact BndH.nil | refine BndH.row (w2w fun _ => rfl) ?_ )) (by rfl) fun γ => ?_
 show Ex Tryz.prog _ _ [(0, .agg (u1u c n0)), (1, .ptr 4 (γ 4) 0)] [(0, ((γ 0), .row 41 3 ((n.lanes).map fun l => s1s l.base))), (1, ((γ 1), .row 42 1 ((n.lanes).map fun l => [a6f c l.done]))), (2, ((γ 2), .map (b0l c n.views))), (3, ((γ 3), .row 3 1 (n.known.map a3e))), (4, ((γ 4), .box 164 [pI n.id, pI n.inc, pI n.g, pI n.led, .ref 0 (γ 0), q3q c n.kept, r0r c n.outs, .pv (.bool n.up), .ref 1 (γ 1), pI n.version, .mp 2 (γ 2), .ref 3 (γ 3), pI n.round, pI n.low])), (5, ((γ 5), .dead)), (6, ((γ 6), .dead)), (7, ((γ 7), .dead)), (8, ((γ 8), .dead)), (9, ((γ 9), .dead)), (14, (0, .dead)), (13, (0, .dead)), (12, (0, .dead)), (11, (0, .dead)), (10, (0, .dead))] _
 refine dv 1 ?_
 refine y0y (id := 10) rfl rfl rfl (x3x (id := 11) u9u q1q rfl (dv 3 ?_))
 refine rlM [0, 1, 2, 3, 4, 13, 14] [_, _, _, _, _, _, _] (b9y c n hlen hN hv3) rfl rfl rfl ?_
 refine x3x (id := 12) u9u q1q rfl (dv 4 fun K K' => ?_)
 refine b7h rfl rfl rfl (c4z rfl rfl rfl .nil) (a8s false n) (.pv _) ?_
 refine dc 1 (aI ?_ ?_)<;>intro hc2<;>try simp at hc2
 ·have fX : ¬ y3y n := a1h (by simpa using hc2)
  refine dv 2 ?_
  refine rlM [5, 6, 7, 8, 9] [_, _, _, _, _] (a9x c n0 h0) rfl rfl rfl ?_
  refine dv 2 ?_
  rw [b4s fX]
  refine dv 1 ?_
  exact ⟨[γ 0, γ 1, γ 2, γ 3, γ 4, _, _, _, _, _], rfl, rfl, HE.row rfl rfl (HE.row rfl rfl (HE.row rfl rfl (HE.row rfl rfl (HE.row rfl rfl ((a0p [0, 1, 2, 3, 4] rfl))))))⟩
 have fK : y3y n := a1d.1 (by simpa using hc2)
 refine dv 3 ?_
 refine e7c [5, 6, 7, 8, 9] [_, _, _, _, _] (a9x false n (by have := w5w fK.1; omega)) rfl rfl rfl (LendM.base (c4z rfl rfl rfl .nil)) rfl (by decide) rfl rfl f3x (by (simp only [pI, a2f, a2g, c0d, gl, nx, a6z, Nat.beq]; rfl)) (by (simp only [pI, a2f, a2g, c0d, gl, nx, a6z, Nat.beq]; rfl)) rfl rfl (f5i rfl) (by repeat (first | exact StrH.nil | refine StrH.dead ?_)) (f7y .nil) ?_
 refine dv 2 ?_
 rw [b4r fK]
 refine dv 1 ?_
 exact ⟨[γ 0, γ 1, γ 2, γ 3, γ 4, _, _, _, _, _], rfl, rfl, HE.row rfl rfl (HE.row rfl rfl (HE.row rfl rfl (HE.row rfl rfl (HE.row rfl rfl ((a0p [0, 1, 2, 3, 4] rfl))))))⟩
end
section
theorem a5c (c : Bool) (l : List Ev) (x : Ev) : a0t Tryz.prog 292 [q3q c l, .agg (y9y x)] (.pv (.int .i64 (e0f x l))) := by
 refine pX Tryz.f292 [.pv (.int .i64 (e0f x l))] 1 ?_
 refine u0u 0 rfl fun hlen => ?_
 refine dv 1 ?_
 refine y0y (id := 0) rfl rfl rfl (dv 7 fun K K' => ?_)
 refine x4x (ι := Nat) (fun i γ1 => [(8, pI (i : Int))]) (fun i γ1 => []) (fun i => i ≤ l.length ∧ ¬ x ∈ l.take i) (fun i => l.length - i) (q6q [0, 3, 7] rfl) (u8u 0 rfl HE.nil) 0 ⟨by omega, by simp⟩ [] x6x x5x rfl fun i γ1 hi => ?_
 obtain ⟨k1, k2⟩ := hi
 refine dc 3 (fun K K' => aS ?_ ?_)<;>intro j<;>try simp at j
 ·obtain rfl : i = l.length := by omega
  rw [List.take_length] at k2
  refine dv 4 ?_
  refine x2x rfl ?_ rfl
  exact congrArg (fun v : Int => [AV.pv (.int .i64 v)]) (d5e k2).symm
 obtain ⟨y, hy⟩ := gE l i
 refine dv 12 fun K K' => ?_
 refine a6o rfl rfl (by intro a c h; cases h) (.inl rfl) (e3v _ _ _ _) ?_
 refine dc 0 (aS ?_ ?_)<;>intro hc5<;>try simp at hc5
 ·have hne : ¬ x = y := by simpa [a1t] using hc5
  refine dv 2 ?_
  refine x8x (b := 1) rfl rfl (by omega) (dv 1 ?_)
  exact ⟨i + 1, ⟨⟨by omega, by rw [z6z hy, List.mem_append, List.mem_singleton, not_or]; exact ⟨k2, hne⟩⟩, by omega⟩, [], x6x, x6x, x5x, x5x, rfl⟩
 have hxy : x = y := by simpa [a1t] using hc5
 subst hxy
 refine dv 4 ?_
 refine x2x rfl ?_ rfl
 exact congrArg (fun v : Int => [AV.pv (.int .i64 v)]) (e3s hy k2).symm
theorem a4f (c : Bool) (l : List Ev) (x : Ev) : a0t Tryz.prog 253 [q3q c l, .agg (y9y x)] (.pv (.bool (decide (x ∈ l)))) := by
 refine pX Tryz.f253 [.pv (.bool (decide (x ∈ l)))] 1 ?_
 refine dv 1 ?_
 refine y0y (id := 0) rfl rfl rfl (dv 4 ?_)
 refine x0x rfl rfl rfl (a5c c l x) (dv 3 ?_)
 refine x2x rfl ?_ rfl
 exact congrArg (fun b : Bool => [AV.pv (.bool b)]) (e8c x l)
theorem a8g (c c' : Bool) (l o : List Ev) (g m : Int) : Meth Tryz.prog 252 2 [0, 1] [q3q c l, q3q c' o, .ptr 0 0 0, .ptr 1 0 0] [(0, (0, .box 3 [pI g])), (1, (0, .box 3 [pI m]))] (.tup []) [(1, (0, .box 3 [pI (chg g o m l)]))] := by
 refine mX Tryz.f252 [] 2 1 fun γ => ?_
 refine u0u 0 rfl fun hlen => ?_
 refine dv 5 ?_
 refine x4x (ι := Nat) (fun i γ1 => [(10, pI (i : Int))]) (fun i γ1 => [(1, ((γ 1), .box 3 [pI (chg g o m (l.take i))])), (2, ((γ1 2), .dead))]) (fun i => i ≤ l.length) (fun i => l.length - i) (q6q [1, 2, 3, 8, 9] rfl) (u8u 0 rfl HE.nil) 0 (by omega) [0, 0, _] x6x (HE.box rfl (by rw [List.take_zero]; rfl) (HE.kill rfl HE.nil)) rfl fun i γ1 hi => ?_
 refine dc 3 (fun K K' => aS ?_ ?_)<;>intro j<;>try simp at j
 ·obtain rfl : i = l.length := by omega
  refine dv 1 ?_
  exact ⟨[γ 0, γ 1], rfl, rfl, HE.box rfl (by rw [List.take_length]; rfl) (u8u 0 rfl HE.nil)⟩
 obtain ⟨x, hx⟩ := gE l i
 refine dv 6 fun K K' => ?_
 refine x3x (id := 2) z2z a7w rfl (dc 7 (aS ?_ ?_))<;>intro j<;>try simp at j
 ·have hn : ¬ (g ≤ x.time ∧ x.time < (chg g o m (l.take i)) ∧ ¬ x ∈ o) := fun q => (by have := q.1; omega)
  refine dv 13 ?_
  refine x8x (b := 1) rfl rfl (by omega) (dv 1 ?_)
  exact ⟨i + 1, ⟨by omega, by omega⟩, [0, 0, _], x6x, x6x, (HE.box rfl (by rw [a8m hx, if_neg hn]) (HE.kill rfl HE.nil)), x5x, rfl⟩
 refine dc 6 (aS ?_ ?_)<;>intro j<;>try simp at j
 ·have hn : ¬ (g ≤ x.time ∧ x.time < (chg g o m (l.take i)) ∧ ¬ x ∈ o) := by exact fun q => (by have := q.2.1; omega)
  refine dv 7 ?_
  refine x8x (b := 1) rfl rfl (by omega) (dv 1 ?_)
  exact ⟨i + 1, ⟨by omega, by omega⟩, [0, 0, _], x6x, x6x, (HE.box rfl (by rw [a8m hx, if_neg hn]) (HE.kill rfl HE.nil)), x5x, rfl⟩
 refine dv 2 ?_
 refine x0x rfl rfl rfl (a4f c' o x) ?_
 refine dc 2 (aS ?_ ?_)<;>intro hc6<;>try simp at hc6
 ·have hn : ¬ (g ≤ x.time ∧ x.time < (chg g o m (l.take i)) ∧ ¬ x ∈ o) := fun q => q.2.2 hc6
  refine dv 2 ?_
  refine x8x (b := 1) rfl rfl (by omega) (dv 1 ?_)
  exact ⟨i + 1, ⟨by omega, by omega⟩, [0, 0, _], x6x, x6x, (HE.box rfl (by rw [a8m hx, if_neg hn]) (HE.kill rfl HE.nil)), x5x, rfl⟩
 have hy : g ≤ x.time ∧ x.time < (chg g o m (l.take i)) ∧ ¬ x ∈ o := ⟨by omega, by omega, by exact hc6⟩
 refine dv 5 ?_
 refine x8x (b := 1) rfl rfl (by omega) (dv 1 ?_)
 exact ⟨i + 1, ⟨by omega, by omega⟩, [0, 0, _], x6x, x6x, (HE.box rfl (by (rw [a8m hx, if_pos hy]; try rfl)) (HE.kill rfl HE.nil)), x5x, rfl⟩
theorem b0n (c c' : Bool) (a b : List Ev) (g m : Int) : a0t Tryz.prog 174 [q3q c a, q3q c' b, .pv (.int .i64 g), .pv (.int .i64 m)] (.pv (.int .i64 (chg g a (chg g b m a) b))) := by
 refine pX Tryz.f174 [.pv (.int .i64 (chg g a (chg g b m a) b))] 2 ?_
 refine dv 1 ?_
 refine b7e (id := 0) rfl rfl rfl rfl (dv 3 ?_)
 refine x3x (id := 1) s3s f7r rfl (dv 2 ?_)
 refine a9g rfl rfl (dv 5 ?_)
 refine rlM [0, 1] [_, _] (a8g c c' a b g m) rfl rfl rfl ?_
 refine dv 4 ?_
 refine rlM [0, 1] [_, _] (a8g c' c b a g (chg g b m a)) rfl rfl rfl ?_
 refine dv 4 ?_
 exact x2x rfl rfl rfl
theorem c6b (c c' : Bool) (n : Nd) (f inc ver g : Int) (es : List Ev) : a0t Tryz.prog 172 [.agg (u1u c n), .pv (.int .i64 f), .pv (.int .i64 inc), .pv (.int .i64 ver), .pv (.int .i64 g), q3q c' es] (.pv (.bool (kb (a2o n f inc ver g es)))) := by
 refine pX Tryz.f172 [.pv (.bool (kb (a2o n f inc ver g es)))] 2 ?_
 refine dv 1 ?_
 refine y0y (id := 0) rfl rfl rfl (dc 7 (fun K K' => aS ?_ ?_))<;>intro hg2<;>try simp at hg2
 ·have fX : ¬ a2o n f inc ver g es := by (rintro ⟨m1, m2, m3, m4, m5, m6, m7, m8, m9⟩; (simp_all; done))
  refine dv 18 ?_
  refine x2x rfl ?_ rfl
  exact congrArg (fun b : Bool => [AV.pv (.bool b)]) (a4g fX)
 have fUp : n.up = true := hg2
 refine dc 5 (aS ?_ ?_)<;>intro j<;>try simp at j
 ·have fX : ¬ a2o n f inc ver g es := by (rintro ⟨m1, m2, m3, m4, m5, m6, m7, m8, m9⟩; omega)
  refine dv 13 ?_
  refine x2x rfl ?_ rfl
  exact congrArg (fun b : Bool => [AV.pv (.bool b)]) (a4g fX)
 refine dv 1 ?_
 refine x0x rfl rfl rfl (b9o ..) (dc 3 (aS ?_ ?_))<;>intro j<;>try simp at j
 ·have fX : ¬ a2o n f inc ver g es := by (rintro ⟨m1, m2, m3, m4, m5, m6, m7, m8, m9⟩; omega)
  refine dv 8 ?_
  refine x2x rfl ?_ rfl
  exact congrArg (fun b : Bool => [AV.pv (.bool b)]) (a4g fX)
 refine dc 5 (aI ?_ ?_)<;>intro hc5<;>try simp at hc5
 ·have fX : ¬ a2o n f inc ver g es := by (rintro ⟨m1, m2, m3, m4, m5, m6, m7, m8, m9⟩; omega)
  refine dv 3 ?_
  refine x2x rfl ?_ rfl
  exact congrArg (fun b : Bool => [AV.pv (.bool b)]) (a4g fX)
 have f4 : ¬ f = n.id := hc5
 refine dv 4 fun K K' => ?_
 refine x0x rfl rfl rfl (u5u ..) (dc 2 (aS ?_ ?_))<;>intro j<;>try simp at j
 ·have fX : ¬ a2o n f inc ver g es := by (rintro ⟨m1, m2, m3, m4, m5, m6, m7, m8, m9⟩; omega)
  refine dv 12 ?_
  refine x2x rfl ?_ rfl
  exact congrArg (fun b : Bool => [AV.pv (.bool b)]) (a4g fX)
 refine dv 1 ?_
 refine x0x rfl rfl rfl (u5u ..) (dc 3 (aS ?_ ?_))<;>intro j<;>try simp at j
 ·have fX : ¬ a2o n f inc ver g es := by (rintro ⟨m1, m2, m3, m4, m5, m6, m7, m8, m9⟩; omega)
  refine dv 7 ?_
  refine x2x rfl ?_ rfl
  exact congrArg (fun b : Bool => [AV.pv (.bool b)]) (a4g fX)
 refine dv 1 ?_
 refine x0x rfl rfl rfl (u5u ..) (dc 2 (aI ?_ ?_))<;>intro j<;>try simp at j
 ·have fX : ¬ a2o n f inc ver g es := by (rintro ⟨m1, m2, m3, m4, m5, m6, m7, m8, m9⟩; omega)
  refine dv 3 ?_
  refine x2x rfl ?_ rfl
  exact congrArg (fun b : Bool => [AV.pv (.bool b)]) (a4g fX)
 refine dv 7 fun K K' => ?_
 refine u0u 5 rfl fun hlen => ?_
 refine x4x (ι := Nat) (fun i γ1 => [(49, pI (i : Int))]) (fun i γ1 => [(1, ((γ1 1), .dead))]) (fun i => i ≤ es.length ∧ c9p es (fun _ e => p1p e.to = n.id ∧ (e.from' = -1 ∨ p1p e.from' = f)) i) (fun i => es.length - i) (q6q [1, 5, 6, 47, 48] rfl) (u8u 0 rfl HE.nil) 0 ⟨by omega, a1p⟩ [0, _] x6x x5x rfl fun i γ1 hi => ?_
 obtain ⟨k1, k2⟩ := hi
 refine dc 3 (fun K K' => aS ?_ ?_)<;>intro j<;>try simp at j
 ·have hall := a3d k2 (by omega)
  refine dv 3 ?_
  refine x0x rfl rfl rfl (a6i c' es 100) ?_
  refine dv 2 ?_
  refine x2x rfl ?_ rfl
  exact congrArg (fun b : Bool => [AV.pv (.bool b)]) (e7n ⟨fun q => ⟨fUp, by omega, by omega, f4, by omega, by omega, by omega, q, fun e he => by obtain ⟨i, hi⟩ := List.getElem?_of_mem he; exact hall i e hi⟩, fun q => q.2.2.2.2.2.2.2.1⟩)
 obtain ⟨e, he⟩ := gE es i
 refine dv 6 fun K K' => ?_
 refine x3x (id := 1) z2z a7w rfl (dv 4 ?_)
 refine x0x rfl rfl rfl (a6h ..) (dc 4 (aS ?_ ?_))<;>intro hg14<;>try simp at hg14
 ·have fE : ¬ (p1p e.to = n.id ∧ (e.from' = -1 ∨ p1p e.from' = f)) := fun q => (by have := q.1; omega)
  refine dv 11 ?_
  have fX : ¬ a2o n f inc ver g es := fun q => fE (q.2.2.2.2.2.2.2.2 e (List.mem_of_getElem? he))
  refine dv 3 ?_
  refine x2x rfl ?_ rfl
  exact congrArg (fun b : Bool => [AV.pv (.bool b)]) (a4g fX)
 have e1 : p1p e.to = n.id := hg14
 refine dc 4 (aS ?_ ?_)<;>intro hg15<;>try simp at hg15
 ·have hE : p1p e.to = n.id ∧ (e.from' = -1 ∨ p1p e.from' = f) := ⟨e1, .inl hg15⟩
  refine dv 9 ?_
  refine x8x (b := 1) rfl rfl (by omega) (dv 1 ?_)
  exact ⟨i + 1, ⟨⟨by omega, s6s k2 he hE⟩, by omega⟩, [0, _], x6x, x6x, x5x, x5x, rfl⟩
 refine dv 2 ?_
 refine x0x rfl rfl rfl (a6h ..) (dc 4 (aS ?_ ?_))<;>intro hc16<;>try simp at hc16
 ·have hE : p1p e.to = n.id ∧ (e.from' = -1 ∨ p1p e.from' = f) := ⟨e1, .inr hc16⟩
  refine dv 2 ?_
  refine x8x (b := 1) rfl rfl (by omega) (dv 1 ?_)
  exact ⟨i + 1, ⟨⟨by omega, s6s k2 he hE⟩, by omega⟩, [0, _], x6x, x6x, x5x, x5x, rfl⟩
 have fE : ¬ (p1p e.to = n.id ∧ (e.from' = -1 ∨ p1p e.from' = f)) := by (rintro ⟨q1, q2 | q2⟩ <;> omega)
 have fX : ¬ a2o n f inc ver g es := fun q => fE (q.2.2.2.2.2.2.2.2 e (List.mem_of_getElem? he))
 refine dv 3 ?_
 refine x2x rfl ?_ rfl
 exact congrArg (fun b : Bool => [AV.pv (.bool b)]) (a4g fX)
end
section
theorem b9z (c : Bool) (n : Nd) (hs : (r2r n).length ≤ 5000000) (hlen : n.lanes.length ≤ 1048576) : Meth Tryz.prog 229 6 [0, 1, 2, 3, 4] [.ptr 4 0 0] [(0, (0, .row 41 3 ((n.lanes).map fun l => s1s l.base))), (1, (0, .row 42 1 ((n.lanes).map fun l => [a6f c l.done]))), (2, (0, .map (b0l c n.views))), (3, (0, .row 3 1 (n.known.map a3e))), (4, (0, .box 164 [pI n.id, pI n.inc, pI n.g, pI n.led, .ref 0 0, q3q c n.kept, r0r c n.outs, .pv (.bool n.up), .ref 1 0, pI n.version, .mp 2 0, .ref 3 0, pI n.round, pI n.low])), (5, (0, .dead))] (q3q true (r2r n)) [(5, (0, .dead))] := by
 refine p4p v3v (fn := Tryz.f229) (by kernel_rfl) (by kernel_rfl) rfl (O0 := [q3q true (r2r n)]) 6 2 (s0s rfl) (by rfl) (by repeat (first | exact BndH.nil | refine BndH.dead ?_ | refine BndH.box rfl ?_ | refine BndH.row (w2w fun _ => rfl) ?_ | refine BndH.map (a1i _ _) ?_ )) (by repeat (first | exact BndH.nil | refine BndH.dead ?_ )) (by rfl) fun γ => ?_
 show Ex Tryz.prog _ _ [(0, .ptr 4 (γ 4) 0)] [(0, ((γ 0), .row 41 3 ((n.lanes).map fun l => s1s l.base))), (1, ((γ 1), .row 42 1 ((n.lanes).map fun l => [a6f c l.done]))), (2, ((γ 2), .map (b0l c n.views))), (3, ((γ 3), .row 3 1 (n.known.map a3e))), (4, ((γ 4), .box 164 [pI n.id, pI n.inc, pI n.g, pI n.led, .ref 0 (γ 0), q3q c n.kept, r0r c n.outs, .pv (.bool n.up), .ref 1 (γ 1), pI n.version, .mp 2 (γ 2), .ref 3 (γ 3), pI n.round, pI n.low])), (5, ((γ 5), .dead)), (7, (0, .dead)), (6, (0, .dead))] _
 have hkl : n.kept.length ≤ 5000000 := by simp only [r2r, r7r] at hs; omega
 refine dv 8 ?_
 refine rlM [5] [_] (w4w c n.kept (by omega)) rfl rfl rfl ?_
 refine dv 10 fun K K' => ?_
 refine x4x (ι := Nat) (fun i γ1 => [(3, .ref 5 (γ1 5)), (19, pI (i : Int))]) (fun i γ1 => [(5, ((γ1 5), .row 56 7 ((n.kept ++ (n.lanes.take i).flatMap a8j).map y9y))), (6, ((γ1 6), .dead)), (7, ((γ1 7), .dead))]) (fun i => i ≤ n.lanes.length) (fun i => n.lanes.length - i) (q6q [17, 18] rfl) (a0p [0, 1, 2, 3, 4] rfl) 0 (by omega) [0, 0, 0, 0, 0, _, _, _] x6x (HE.row rfl (by simp) (HE.kill rfl (HE.kill rfl HE.nil))) rfl fun i γ1 hi => ?_
 refine dc 3 (fun K K' => aS ?_ ?_)<;>intro h<;>try simp at h
 ·obtain rfl : i = n.lanes.length := by omega
  refine dv 4 ?_
  refine p7p 2 rfl rfl (fun _ => rfl) ?_
  refine dv 1 ?_
  exact ⟨[γ 0, γ 1, γ 2, γ 3, γ 4, _], rfl, congrArg (fun l : List Ev => some [q3q true l]) (by rw [List.take_length]; rfl), x5x⟩
 obtain ⟨p, hp⟩ := gE n.lanes i
 refine dv 4 fun K K' => ?_
 refine z0z (j := i) rfl rfl b8q rfl a6q rfl rfl (y7y hp) ?_
 refine dv 7 ?_
 refine u0u 23 rfl fun hlen2 => ?_
 refine x4x (ι := Nat) (fun j γ2 => [(3, .ref 5 (γ2 5)), (25, pI (j : Int))]) (fun j γ2 => [(5, ((γ2 5), .row 56 7 ((n.kept ++ (n.lanes.take i).flatMap a8j ++ (p.done.take j).flatMap Pa.sends).map y9y))), (6, ((γ2 6), .dead)), (7, ((γ2 7), .dead))]) (fun j => j ≤ p.done.length) (fun j => p.done.length - j) (q6q [17, 18, 19, 23, 24] rfl) (a0p [0, 1, 2, 3, 4] rfl) 0 (by omega) [0, 0, 0, 0, 0, _, _, _] x6x (HE.row rfl (by simp) (HE.kill rfl (HE.kill rfl HE.nil))) rfl fun j γ2 hi => ?_
 refine dc 3 (fun K K' => aS ?_ ?_)<;>intro h<;>try simp at h
 ·obtain rfl : j = p.done.length := by omega
  refine dv 2 ?_
  refine z8z rfl rfl rfl (dv 1 ?_)
  exact ⟨i + 1, ⟨by omega, by omega⟩, [0, 0, 0, 0, 0, _, _, _], (x7x 3 rfl (Cov.cons' (t := 19) rfl (by rw [x9x (by omega) (by omega)]; rfl) Cov.nil)), x6x, (HE.row rfl (by simp only [a3y hp, List.append_assoc, a8j, List.take_length]) (HE.kill rfl (HE.kill rfl HE.nil))), x5x, rfl⟩
 obtain ⟨q, hq⟩ := gE p.done j
 have hsp := c4g hp hq
 refine dv 6 fun K K' => ?_
 refine x3x (id := 6) a3q c0m rfl (dv 5 ?_)
 refine w6w (zs := (n.kept ++ (n.lanes.take i).flatMap a8j ++ (p.done.take j).flatMap Pa.sends ++ q.sends).map y9y) rfl rfl u3u rfl z2z rfl rfl rfl (z9z (fun _ => rfl) _) (a7x _ _ _) (by have hb56 : T56.bytes = 56 := rfl; rw [List.length_map, hb56]; omega) ?_
 refine dv 2 ?_
 refine z8z rfl rfl rfl (dv 1 ?_)
 exact ⟨j + 1, ⟨by omega, by omega⟩, [0, 0, 0, 0, 0, _, _, _], (x7x 3 rfl (Cov.cons' (t := 25) rfl (by rw [x9x (by omega) (by omega)]; rfl) Cov.nil)), x6x, (HE.row rfl (by simp only [a3y hq, List.append_assoc]) (HE.kill rfl (HE.kill rfl HE.nil))), x5x, rfl⟩
theorem b8c (to kn : Int) (e : Ev) : Meth Tryz.prog 240 2 [0, 1] [.agg (y9y e), .ptr 0 0 0, .ptr 1 0 0] [(0, (0, .box 3 [pI to])), (1, (0, .box 3 [pI kn]))] (.pv (.bool (a3s to kn e))) [] := by
 refine mX Tryz.f240 [.pv (.bool (a3s to kn e))] 2 1 fun γ => ?_
 refine dv 1 ?_
 refine y0y (id := 2) rfl rfl rfl (dv 4 ?_)
 refine x0x rfl rfl rfl (a6h ..) (dc 3 (aS ?_ ?_))<;>intro h<;>try simp at h
 ·refine dv 6 ?_
  exact ⟨[γ 0, γ 1], rfl, congrArg (fun b : Bool => some [AV.pv (.bool b)]) ((decide_eq_false (by omega)).symm), x5x⟩
 refine dv 7 ?_
 exact ⟨[γ 0, γ 1], rfl, congrArg (fun b : Bool => some [AV.pv (.bool b)]) (decide_eq_decide.2 (by omega)), x5x⟩
theorem a8t (to kn : Int) (l : List Ev) (hl : l.length ≤ 10000000) : Meth Tryz.prog 230 2 [0, 1] [q3q true l, .fn (.func 240) [] [.ptr 0 0 0, .ptr 1 0 0]] [(0, (0, .box 3 [pI to])), (1, (0, .box 3 [pI kn]))] (q3q true (l.filter (a3s to kn))) [] := by
 refine mX Tryz.f230 [q3q true (l.filter (a3s to kn))] 2 4 fun γ => ?_
 refine dv 10 fun K K' => ?_
 refine a2j 5 5 56 7 rfl rfl ?_
 refine x4x (ι := Nat) (fun i γ1 => [(5, .ref 5 (γ1 5)), (10, pI (i : Int))]) (fun i γ1 => [(5, ((γ1 5), .row 56 7 (((l.take i).filter (a3s to kn)).map y9y))), (2, ((γ1 2), .dead)), (3, ((γ1 3), .dead)), (4, ((γ1 4), .dead))]) (fun i => i ≤ l.length) (fun i => l.length - i) (q6q [1, 8, 9] rfl) (a0p [0, 1] rfl) 0 (by omega) [0, 0, _, _, _, _] x6x (HE.row rfl (by rw [List.take_zero]; rfl) (HE.kill rfl (HE.kill rfl (HE.kill rfl HE.nil)))) rfl fun i γ1 hi => ?_
 refine dc 3 (fun K K' => aS ?_ ?_)<;>intro h<;>try simp at h
 ·obtain rfl : i = l.length := by omega
  rw [List.take_length]
  refine dv 1 ?_
  refine p7p 5 rfl rfl (fun _ => rfl) ?_
  refine dv 4 ?_
  exact ⟨[γ 0, γ 1], rfl, rfl, x5x⟩
 obtain ⟨p, hp⟩ := gE l i
 have hfl : ((l.take i).filter (a3s to kn)).length ≤ 10000000 := Nat.le_trans (List.length_filter_le _ _) (by rw [List.length_take]; omega)
 refine dv 6 fun K K' => ?_
 refine x3x (id := 2) z2z a7w rfl (dv 4 ?_)
 refine rlM [0, 1] [_, _] (b8c to kn p) rfl rfl rfl ?_
 refine dc 0 (aS ?_ ?_)<;>intro hc5<;>try simp at hc5
 ·have hw : ¬ a3s to kn p = true := by rw [hc5]; decide
  refine dv 2 ?_
  refine z8z rfl rfl rfl (dv 1 ?_)
  exact ⟨i + 1, ⟨by omega, by omega⟩, [0, 0, _, _, _, _], (x7x 5 rfl (Cov.cons' (t := 10) rfl (by rw [x9x (by omega) (by omega)]; rfl) Cov.nil)), x6x, (HE.row rfl (by rw [q9q hp]; rw [if_neg hw, List.append_nil]) (HE.kill rfl (HE.kill rfl (HE.kill rfl HE.nil)))), x5x, rfl⟩
 have hw : a3s to kn p = true := hc5
 refine dv 3 ?_
 refine y2y (id := 3) u3u rfl z2z rfl rfl rfl rfl rfl rfl ?_
 refine y6y (zs := ((l.take i).filter (a3s to kn) ++ [p]).map y9y) rfl rfl u3u rfl z2z rfl rfl rfl rfl (by rfl) (z7z _ _ _) (by (simp only [a0e, r7r, a0b, a0d, a0u, a2z, T56] at *; omega)) ?_
 refine dv 2 ?_
 refine z8z rfl rfl rfl (dv 1 ?_)
 exact ⟨i + 1, ⟨by omega, by omega⟩, [0, 0, _, _, _, _], (x7x 5 rfl (Cov.cons' (t := 10) rfl (by rw [x9x (by omega) (by omega)]; rfl) Cov.nil)), (x7x 1 rfl (x7x 8 rfl (x7x 9 rfl Cov.nil))), (HE.row rfl (by rw [q9q hp]; rw [if_pos hw]) (HE.kill rfl (HE.kill rfl (HE.kill rfl HE.nil)))), (u8u 0 rfl (u8u 1 rfl HE.nil)), rfl⟩
end
section
theorem c7k (c c' : Bool) (l : La) (s : List Ev) (hs : l.done.length ≤ 1000000) : a0t Tryz.prog 254 [.agg (q7q c l), q3q c' s] (.tup [.agg (q7q c (a0q l 0 (same l.done s))), .pv (.bool (decide ((same l.done s) < l.done.length)))]) := by
 refine pX Tryz.f254 [.agg (q7q c (a0q l 0 (same l.done s))), .pv (.bool (decide ((same l.done s) < l.done.length)))] 4 ?_
 have hsm := c2s l.done s
 refine dv 1 ?_
 refine y0y (id := 0) rfl rfl rfl (x3x (id := 1) a0m a6r rfl (dv 4 ?_))
 refine rlM [2] [_] (b6s c l.done) rfl rfl rfl ?_
 refine dv 3 ?_
 refine rlM [2, 3] [_, _] (b6c c l.done) rfl rfl rfl ?_
 refine dv 4 ?_
 refine rlM [2] [_] (a7q c c' l.done s) rfl rfl rfl ?_
 refine dc 8 (fun K K' => aI ?_ ?_)<;>intro o<;>try simp at o
 ·have hq : (same l.done s) = l.done.length := by omega
  refine dv 5 ?_
  (rw [hq, b2q, decide_eq_false (Nat.lt_irrefl _)]; exact ⟨_, _, rfl, .agg rfl (.cl rfl (.cl rfl (.cl rfl (.cl rfl (.cl rfl .nil))))) (.cl rfl .nil)⟩)
 have hq : ¬ (same l.done s) = l.done.length := by omega
 refine dv 4 ?_
 refine rlM [2, 3] [_, _] (b3z c l.done (same l.done s) hsm.2 hs) rfl rfl rfl ?_
 refine dv 2 ?_
 refine rlM [2] [_] (c1n c (l.done.take (same l.done s)) (by rw [List.length_take]; omega)) rfl rfl rfl ?_
 refine dv 7 ?_
 (rw [decide_eq_true (show (same l.done s) < l.done.length by omega)]; exact ⟨_, _, rfl, .agg rfl (.cl rfl (.cl rfl (.cl rfl (.cl rfl (.cl rfl .nil))))) (.cl rfl .nil)⟩)
theorem c0a (c : Bool) (n : Nd) (proc : Int) (hs : (r2r n).length + (a0f n 3).length ≤ 5000000) (hlen : n.lanes.length ≤ 1048576) (hv3 : n.views.length = 3) : Meth Tryz.prog 126 6 [0, 1, 2, 3, 4] [.ptr 4 0 0, .pv (.int .i64 proc)] [(0, (0, .row 41 3 ((n.lanes).map fun l => s1s l.base))), (1, (0, .row 42 1 ((n.lanes).map fun l => [a6f c l.done]))), (2, (0, .map (b0l c n.views))), (3, (0, .row 3 1 (n.known.map a3e))), (4, (0, .box 164 [pI n.id, pI n.inc, pI n.g, pI n.led, .ref 0 0, q3q c n.kept, r0r c n.outs, .pv (.bool n.up), .ref 1 0, pI n.version, .mp 2 0, .ref 3 0, pI n.round, pI n.low])), (5, (0, .dead))] (q3q true (a1e n proc)) [(5, (0, .dead))] := by
 refine p4p v3v (fn := Tryz.f126) (by kernel_rfl) (by kernel_rfl) rfl (O0 := [q3q true (a1e n proc)]) 6 4 (s0s rfl) (by rfl) (by repeat (first | exact BndH.nil | refine BndH.dead ?_ | refine BndH.box rfl ?_ | refine BndH.row (w2w fun _ => rfl) ?_ | refine BndH.map (a1i _ _) ?_ )) (by repeat (first | exact BndH.nil | refine BndH.dead ?_ )) (by rfl) fun γ => ?_
 show Ex Tryz.prog _ _ [(0, .ptr 4 (γ 4) 0), (1, .pv (.int .i64 proc))] [(0, ((γ 0), .row 41 3 ((n.lanes).map fun l => s1s l.base))), (1, ((γ 1), .row 42 1 ((n.lanes).map fun l => [a6f c l.done]))), (2, ((γ 2), .map (b0l c n.views))), (3, ((γ 3), .row 3 1 (n.known.map a3e))), (4, ((γ 4), .box 164 [pI n.id, pI n.inc, pI n.g, pI n.led, .ref 0 (γ 0), q3q c n.kept, r0r c n.outs, .pv (.bool n.up), .ref 1 (γ 1), pI n.version, .mp 2 (γ 2), .ref 3 (γ 3), pI n.round, pI n.low])), (5, ((γ 5), .dead)), (9, (0, .dead)), (8, (0, .dead)), (7, (0, .dead)), (6, (0, .dead))] _
 refine dv 1 ?_
 refine b7e (id := 6) rfl rfl rfl rfl (b7e (id := 7) rfl rfl rfl rfl (dv 3 ?_))
 refine rlM [0, 1, 2, 3, 4, 9] [_, _, _, _, _, _] (b3n c n (by omega) hlen) rfl rfl rfl ?_
 refine dv 5 fun K K' => ?_
 refine x4x (ι := Nat) (fun i γ1 => [(5, .ref 9 (γ1 9)), (9, pI (i : Int))]) (fun i γ1 => [(9, ((γ1 9), .row 56 7 ((r2r n ++ a0f n i).map y9y))), (8, ((γ1 8), .dead))]) (fun i => i ≤ 3) (fun i => 3 - i) (q6q [2, 3] rfl) (a0p [0, 1, 2, 3, 4, 5, 6, 7] rfl) 0 (by omega) [0, 0, 0, 0, 0, 0, 0, 0, _, _] x6x (HE.row rfl (by simp [a0f]) (HE.kill rfl HE.nil)) rfl fun i γ1 hi => ?_
 refine dc 3 (fun K K' => aS ?_ ?_)<;>intro o<;>try simp at o
 ·obtain rfl : i = 3 := by omega
  refine dv 1 ?_
  refine p7p 5 rfl rfl (fun _ => rfl) ?_
  refine dv 2 ?_
  refine a9g rfl rfl ?_
  refine rlM [0, 1, 2, 3, 4, 7, 6] [_, _, _, _, _, _, _] (a4e c n proc _ (by rw [List.length_append]; omega)) rfl rfl rfl ?_
  refine rlM [5] [_] (a8f true _ (Nat.le_trans (List.length_filter_le _ _) (by rw [List.length_append]; omega))) rfl rfl rfl ?_
  refine dv 1 ?_
  refine p7p 4 rfl rfl (fun _ => rfl) ?_
  refine dv 1 ?_
  exact ⟨[γ 0, γ 1, γ 2, γ 3, γ 4, _], rfl, rfl, x5x⟩
 obtain ⟨v, hv⟩ := gE n.views i
 have hg : n.views.getD i vi0 = v := by rw [List.getD_eq_getElem?_getD, hv]; rfl
 have hol := c4h n (i := i + 1) (by omega)
 rw [a1f] at hol
 refine dc 14 (fun K K' => aS ?_ ?_)<;>intro hc5<;>try simp at hc5
 ·have hve : b0t n i = [] := by rw [b0t, if_pos hc5]
  refine dv 2 ?_
  refine z8z rfl rfl rfl (dv 1 ?_)
  exact ⟨i + 1, ⟨by omega, by omega⟩, [0, 0, 0, 0, 0, 0, 0, 0, _, _], (x7x 5 rfl (Cov.cons' (t := 9) rfl (by rw [x9x (by omega) (by omega)]; rfl) Cov.nil)), x6x, (HE.row rfl (by rw [a1f, hve]; simp) (HE.kill rfl HE.nil)), x5x, rfl⟩
 have hve : b0t n i = v.events := by rw [b0t, if_neg hc5, hg]
 rw [hve] at hol
 simp only [r7r] at hol
 refine dv 7 ?_
 refine a3x (κ := Int) (enc := fun n => .int .i64 n) (ks := b7x n.views.length) (k := (i : Int)) (out := .agg (a2b c v)) v3v Tryz.underlying162 (a9f Tryz.underlying3) rfl rfl (fun _ _ _ h => d4m h) rfl (a9s _ _) (b9r hv) ?_
 refine dv 1 ?_
 refine w6w (zs := (r2r n ++ a0f n i ++ v.events).map y9y) rfl rfl u3u rfl z2z rfl rfl rfl (z9z (fun _ => rfl) _) (a7x _ _ _) (by have hb56 : T56.bytes = 56 := rfl; rw [List.length_map, hb56]; simp only [r7r]; omega) ?_
 refine dv 2 ?_
 refine z8z rfl rfl rfl (dv 1 ?_)
 exact ⟨i + 1, ⟨by omega, by omega⟩, [0, 0, 0, 0, 0, 0, 0, 0, _, _], (x7x 5 rfl (Cov.cons' (t := 9) rfl (by rw [x9x (by omega) (by omega)]; rfl) Cov.nil)), (x7x 2 rfl (x7x 3 rfl Cov.nil)), (HE.row rfl (by rw [a1f, hve]; simp) (HE.kill rfl HE.nil)), (u8u 0 rfl (u8u 1 rfl (u8u 2 rfl (u8u 3 rfl (u8u 4 rfl (u8u 5 rfl (u8u 6 rfl (u8u 7 rfl HE.nil)))))))), rfl⟩
theorem b8d (c : Bool) (n : Nd) (t : Nat) (ht : t < 3) (hk3 : n.known.length = 3) (hs : (r2r n).length ≤ 5000000) (hlen : n.lanes.length ≤ 1048576) : Meth Tryz.prog 138 6 [0, 1, 2, 3, 4] [.ptr 4 0 0, .pv (.int .i64 (t : Int))] [(0, (0, .row 41 3 ((n.lanes).map fun l => s1s l.base))), (1, (0, .row 42 1 ((n.lanes).map fun l => [a6f c l.done]))), (2, (0, .map (b0l c n.views))), (3, (0, .row 3 1 (n.known.map a3e))), (4, (0, .box 164 [pI n.id, pI n.inc, pI n.g, pI n.led, .ref 0 0, q3q c n.kept, r0r c n.outs, .pv (.bool n.up), .ref 1 0, pI n.version, .mp 2 0, .ref 3 0, pI n.round, pI n.low])), (5, (0, .dead))] (q3q true (a1v n (t : Int))) [(5, (0, .dead))] := by
 refine p4p v3v (fn := Tryz.f138) (by kernel_rfl) (by kernel_rfl) rfl (O0 := [q3q true (a1v n (t : Int))]) 6 3 (s0s rfl) (by rfl) (by repeat (first | exact BndH.nil | refine BndH.dead ?_ | refine BndH.box rfl ?_ | refine BndH.row (w2w fun _ => rfl) ?_ | refine BndH.map (a1i _ _) ?_ )) (by repeat (first | exact BndH.nil | refine BndH.dead ?_ )) (by rfl) fun γ => ?_
 show Ex Tryz.prog _ _ [(0, .ptr 4 (γ 4) 0), (1, .pv (.int .i64 (t : Int)))] [(0, ((γ 0), .row 41 3 ((n.lanes).map fun l => s1s l.base))), (1, ((γ 1), .row 42 1 ((n.lanes).map fun l => [a6f c l.done]))), (2, ((γ 2), .map (b0l c n.views))), (3, ((γ 3), .row 3 1 (n.known.map a3e))), (4, ((γ 4), .box 164 [pI n.id, pI n.inc, pI n.g, pI n.led, .ref 0 (γ 0), q3q c n.kept, r0r c n.outs, .pv (.bool n.up), .ref 1 (γ 1), pI n.version, .mp 2 (γ 2), .ref 3 (γ 3), pI n.round, pI n.low])), (5, ((γ 5), .dead)), (8, (0, .dead)), (7, (0, .dead)), (6, (0, .dead))] _
 obtain ⟨kn, hkn⟩ := gE n.known t
 refine dv 1 ?_
 refine b7e (id := 6) rfl rfl rfl rfl (dv 7 ?_)
 refine z0z (j := t) rfl rfl a0o rfl s3s rfl rfl (y7y hkn) ?_
 refine dv 1 ?_
 refine x3x (id := 7) s3s f7r rfl (dv 3 ?_)
 refine rlM [0, 1, 2, 3, 4, 8] [_, _, _, _, _, _] (b9z c n hs hlen) rfl rfl rfl ?_
 refine a9g rfl rfl ?_
 refine rlM [6, 7] [_, _] (a8t (t : Int) kn _ (by omega)) rfl rfl rfl ?_
 refine rlM [5] [_] (a8f true _ (Nat.le_trans (List.length_filter_le _ _) (by omega))) rfl rfl rfl ?_
 refine dv 1 ?_
 refine p7p 4 rfl rfl (fun _ => rfl) ?_
 refine dv 1 ?_
 exact ⟨[γ 0, γ 1, γ 2, γ 3, γ 4, _], rfl, congrArg (fun l : List Ev => some [q3q true l]) (by rw [c4j hkn]), HE.kill rfl (u8u 0 rfl (u8u 1 rfl (u8u 2 rfl (u8u 3 rfl (u8u 4 rfl HE.nil)))))⟩
theorem c1o (c : Bool) (n : Nd) (hw : wk n) (hpc : n.lanes.length = (q2q n.id 4).length) : Meth Tryz.prog 175 5 [0, 1, 2, 3, 4] [.ptr 4 0 0] [(0, (0, .row 41 3 ((n.lanes).map fun l => s1s l.base))), (1, (0, .row 42 1 ((n.lanes).map fun l => [a6f c l.done]))), (2, (0, .map (b0l c n.views))), (3, (0, .row 3 1 (n.known.map a3e))), (4, (0, .box 164 [pI n.id, pI n.inc, pI n.g, pI n.led, .ref 0 0, q3q c n.kept, r0r c n.outs, .pv (.bool n.up), .ref 1 0, pI n.version, .mp 2 0, .ref 3 0, pI n.round, pI n.low]))] (.tup []) [(0, (0, .row 41 3 (((nl n (v7v n n.lanes)).lanes).map fun l => s1s l.base))), (1, (0, .row 42 1 (((nl n (v7v n n.lanes)).lanes).map fun l => [a6f c l.done]))), (2, (0, .map (b0l c (nl n (v7v n n.lanes)).views))), (3, (0, .row 3 1 ((nl n (v7v n n.lanes)).known.map a3e))), (4, (0, .box 164 [pI (nl n (v7v n n.lanes)).id, pI (nl n (v7v n n.lanes)).inc, pI (nl n (v7v n n.lanes)).g, pI (nl n (v7v n n.lanes)).led, .ref 0 0, q3q c (nl n (v7v n n.lanes)).kept, r0r c (nl n (v7v n n.lanes)).outs, .pv (.bool (nl n (v7v n n.lanes)).up), .ref 1 0, pI (nl n (v7v n n.lanes)).version, .mp 2 0, .ref 3 0, pI (nl n (v7v n n.lanes)).round, pI (nl n (v7v n n.lanes)).low]))] := by
 refine p4p v3v (fn := Tryz.f175) (by kernel_rfl) (by kernel_rfl) rfl (O0 := []) 5 2 (s0s rfl) (by rfl) (by repeat (first | exact BndH.nil | refine BndH.box rfl ?_ | refine BndH.row (w2w fun _ => rfl) ?_ | refine BndH.map (a1i _ _) ?_ )) (by repeat (first | exact BndH.nil | refine BndH.box rfl ?_ | refine BndH.row (w2w fun _ => rfl) ?_ | refine BndH.map (a1i _ _) ?_ )) (by rfl) fun γ => ?_
 show Ex Tryz.prog _ _ [(0, .ptr 4 (γ 4) 0)] [(0, ((γ 0), .row 41 3 ((n.lanes).map fun l => s1s l.base))), (1, ((γ 1), .row 42 1 ((n.lanes).map fun l => [a6f c l.done]))), (2, ((γ 2), .map (b0l c n.views))), (3, ((γ 3), .row 3 1 (n.known.map a3e))), (4, ((γ 4), .box 164 [pI n.id, pI n.inc, pI n.g, pI n.led, .ref 0 (γ 0), q3q c n.kept, r0r c n.outs, .pv (.bool n.up), .ref 1 (γ 1), pI n.version, .mp 2 (γ 2), .ref 3 (γ 3), pI n.round, pI n.low])), (6, (0, .dead)), (5, (0, .dead))] _
 refine dv 3 ?_
 refine x4x (ι := List La × Bool) (fun p γ1 => [(2, .pv (.bool (p.2)))]) (fun p γ1 => [(6, ((γ1 6), .dead)), (0, ((γ 0), .row 41 3 ((p.1).map fun l => s1s l.base))), (1, ((γ 1), .row 42 1 ((p.1).map fun l => [a6f c l.done]))), (5, ((γ1 5), .dead))]) (fun p => (p.2 = true → v7v n p.1 = v7v n n.lanes) ∧ (p.2 = false → p.1 = v7v n n.lanes) ∧ wk (nl n p.1) ∧ p.1.length = n.lanes.length) (fun p => 2 * c4w p.1 + p.2.toNat) (x7x 0 rfl Cov.nil) (a0p [2, 3, 4] rfl) (n.lanes, true) ⟨fun _ => rfl, fun h => (by cases h), hw, rfl⟩ [0, 0, 0, 0, 0, _, _] x6x x5x rfl fun p γ1 hi => ?_
 obtain ⟨ls, q⟩ := p
 obtain ⟨h1, h2, h3, h5⟩ := hi
 dsimp only at h1 h2 h3 h5 ⊢
 refine dc 3 (fun K K' => aS ?_ ?_)<;>intro hc2<;>try simp at hc2
 ·have hq : q = false := by simpa using hc2
  subst hq
  have hfin : ls = v7v n n.lanes := h2 rfl
  subst hfin
  refine dv 1 ?_
  exact ⟨[γ 0, γ 1, γ 2, γ 3, γ 4], rfl, rfl, x5x⟩
 have hq : q = true := hc2
 subst hq
 refine dv 10 ?_
 refine x0x rfl rfl rfl (a7d n.id) (dv 3 ?_)
 refine x4x (ι := Nat) (fun i γ2 => [(2, .pv (.bool (a7z n ls i))), (15, pI (i : Int))]) (fun i γ2 => [(6, ((γ2 6), .dead)), (0, ((γ 0), .row 41 3 ((a0r n ls i).map fun l => s1s l.base))), (1, ((γ 1), .row 42 1 ((a0r n ls i).map fun l => [a6f c l.done]))), (5, ((γ2 5), .dead))]) (fun i => i ≤ ls.length) (fun i => ls.length - i) (q6q [0, 13, 14] rfl) (a0p [2, 3, 4] rfl) 0 (by omega) [0, 0, 0, 0, 0, _, _] x6x x5x rfl fun i γ2 hi => ?_
 refine dc 3 (fun K K' => aS ?_ ?_)<;>intro o<;>try simp at o
 ·obtain rfl : i = ls.length := by omega
  refine dv 1 ?_
  exact ⟨(a0r n ls ls.length, a7z n ls ls.length), ⟨⟨fun h => (b2t h).trans (h1 rfl), fun h => (a8l h).trans (h1 rfl), b7n h3 _, (b2s n ls _).trans h5⟩, (e3p n ls ls.length)⟩, [0, 0, 0, 0, 0, _, _], x6x, x6x, x5x, x5x, rfl⟩
 have hpl : (a0r n ls i).length = ls.length := b2s n ls i
 have hpr : i < (q2q n.id 4).length := by omega
 obtain ⟨l, hp⟩ := gE (a0r n ls i) i
 have h4 := b7n h3 i
 have h41 : (a0r n ls i).length ≤ 4 := h4.1
 have hb4 := h4.2.2.2.2.1 l (List.mem_of_getElem? hp)
 have hpp : (q2q n.id 4)[i]? = some l.proc := h4.2.2.2.2.2.2 i l hp
 refine dv 12 fun K K' => ?_
 refine rlM [0, 1, 2, 3, 4] [_, _, _, _, _] (b0m c (nl n (a0r n ls i)) _ (a1i _ _) i l hp hpp) rfl rfl rfl ?_
 refine dv 2 ?_
 refine rlM [0, 1, 2, 3, 4, 6] [_, _, _, _, _, _] (c0a c (nl n (a0r n ls i)) l.proc (d5a h4) (by show (a0r n ls i).length ≤ 1048576; omega) h4.2.2.1) rfl rfl rfl ?_
 refine x0x rfl rfl rfl (c7k c true l (a1e (nl n (a0r n ls i)) l.proc) (by omega)) ?_
 refine dv 3 ?_
 refine x3x (id := 5) a0m a6r rfl (dc 4 (aS ?_ ?_))<;>intro hc6<;>try simp at hc6
 ·have hk := d5c (n := n) hp (by show ¬ same l.done (a1e (nl n (a0r n ls i)) l.proc) < l.done.length; simpa using hc6)
  refine dv 2 ?_
  refine z8z rfl rfl rfl (dv 1 ?_)
  exact ⟨i + 1, ⟨by omega, by omega⟩, [0, 0, 0, 0, 0, _, _], (Cov.cons' (t := 2) rfl (by rw [b5t, hk.2, Bool.or_false]) (Cov.cons' (t := 15) rfl (by rw [x9x (by omega) (by omega)]; rfl) Cov.nil)), x6x, (HE.kill rfl (HE.row rfl (by rw [b1v, c4x (fun _ _ => rfl)]) (HE.row rfl (by rw [b1v, hk.1]) (HE.kill rfl HE.nil)))), x5x, rfl⟩
 have hk := d5b (n := n) hp (by show same l.done (a1e (nl n (a0r n ls i)) l.proc) < l.done.length; exact hc6)
 refine dv 8 ?_
 refine z0z (j := i) rfl rfl b8q rfl a6q rfl rfl (y7y hp) ?_
 refine a8w (el' := a0q l 0 (keep n (a0r n ls i) l)) rfl rfl a6q rfl rfl rfl hp rfl (by omega) (.val rfl rfl .nil) rfl rfl ?_
 refine dv 3 ?_
 refine z8z rfl rfl rfl (dv 1 ?_)
 exact ⟨i + 1, ⟨by omega, by omega⟩, [0, 0, 0, 0, 0, _, _], (Cov.cons' (t := 2) rfl (by rw [b5t, hk.2, Bool.or_true]) (Cov.cons' (t := 15) rfl (by rw [x9x (by omega) (by omega)]; rfl) Cov.nil)), x6x, (HE.kill rfl (HE.row rfl (by rw [b1v, c4x (fun _ _ => rfl)]) (HE.row rfl (by rw [b1v, hk.1]) (HE.kill rfl HE.nil)))), x5x, rfl⟩
end
section
theorem a5d (c c' : Bool) (l l' : List Ev) : a0t Tryz.prog 256 [q3q c l, q3q c' l'] (.pv (.bool (decide (l = l')))) := by
 refine pX Tryz.f256 [.pv (.bool (decide (l = l')))] 0 ?_
 refine u0u 0 rfl fun hlen => ?_
 refine dc 9 (fun K K' => aI ?_ ?_)<;>intro j<;>try simp at j
 ·refine dv 3 ?_
  refine x2x rfl ?_ rfl
  exact e8d (by omega)
 refine dv 7 fun K K' => ?_
 refine x4x (ι := Nat) (fun i γ1 => [(13, pI (i : Int))]) (fun i γ1 => []) (fun i => i ≤ l.length ∧ l.length = l'.length ∧ l.take i = l'.take i) (fun i => l.length - i) (q6q [0, 1, 12] rfl) HE.nil 0 ⟨by omega, by omega, rfl⟩ [] x6x x5x rfl fun i γ1 hi => ?_
 obtain ⟨h1, h2, h3⟩ := hi
 refine dc 3 (fun K K' => aS ?_ ?_)<;>intro j<;>try simp at j
 ·refine dv 4 ?_
  refine x2x rfl ?_ rfl
  exact eqT h3 (by omega) (by omega)
 obtain ⟨x, hx⟩ := gE l i
 obtain ⟨y, hy⟩ := gE l' i
 refine dv 15 fun K K' => ?_
 refine a6o rfl rfl (by intro p q h; cases h) (.inr rfl) (e3v _ _ _ _) ?_
 refine dc 0 (aS ?_ ?_)<;>intro hc7<;>try simp at hc7
 ·have hxy : x = y := by simpa [a1t] using hc7
  refine dv 2 ?_
  refine x8x (b := 1) rfl rfl (by omega) (dv 1 ?_)
  exact ⟨i + 1, ⟨⟨by omega, h2, a4w h3 hx hy hxy⟩, by omega⟩, [], x6x, x6x, x5x, x5x, rfl⟩
 have hxy : ¬ x = y := by simpa [a1t] using hc7
 refine dv 3 ?_
 refine x2x rfl ?_ rfl
 exact d7n hx hy hxy
theorem a0k (l l' : List (List Ev)) : Meth Tryz.prog 255 1 [0] [.row (.rd true) 47 1 ((l).map fun l => [q3q true l]), .row (.rd true) 47 1 ((l').map fun l => [q3q true l]), .fn (.func 256) [] []] [(0, (0, .dead))] (.pv (.bool (decide (l = l')))) [] := by
 refine mX Tryz.f255 [.pv (.bool (decide (l = l')))] 1 0 fun γ => ?_
 refine u0u 0 rfl fun hlen => ?_
 refine dc 9 (fun K K' => aI ?_ ?_)<;>intro j<;>try simp at j
 ·refine dv 3 ?_
  exact ⟨[γ 0], rfl, congrArg some (e8d (by omega)), x5x⟩
 refine dv 7 fun K K' => ?_
 refine x4x (ι := Nat) (fun i γ1 => [(17, pI (i : Int))]) (fun i γ1 => []) (fun i => i ≤ l.length ∧ l.length = l'.length ∧ l.take i = l'.take i) (fun i => l.length - i) (q6q [1, 2, 15, 16] rfl) (u8u 0 rfl HE.nil) 0 ⟨by omega, by omega, rfl⟩ [] x6x x5x rfl fun i γ1 hi => ?_
 obtain ⟨h1, h2, h3⟩ := hi
 refine dc 3 (fun K K' => aS ?_ ?_)<;>intro j<;>try simp at j
 ·refine dv 4 ?_
  exact ⟨[γ 0], rfl, congrArg some (eqT h3 (by omega) (by omega)), x5x⟩
 obtain ⟨x, hx⟩ := gE l i
 obtain ⟨y, hy⟩ := gE l' i
 refine dv 19 fun K K' => ?_
 refine x0x rfl rfl rfl (a5d true true x y) (dc 1 (aI ?_ ?_))<;>intro hc7<;>try simp at hc7
 ·have hxy : ¬ x = y := by simpa [a1t] using hc7
  refine dv 3 ?_
  exact ⟨[γ 0], rfl, congrArg some (d7n hx hy hxy), x5x⟩
 have hxy : x = y := by simpa [a1t] using hc7
 refine dv 2 ?_
 refine x8x (b := 1) rfl rfl (by omega) (dv 1 ?_)
 exact ⟨i + 1, ⟨⟨by omega, h2, a4w h3 hx hy hxy⟩, by omega⟩, [], (x7x 17 rfl Cov.nil), (x7x 1 rfl (x7x 2 rfl (x7x 15 rfl (x7x 16 rfl Cov.nil)))), HE.nil, (u8u 0 rfl HE.nil), rfl⟩
theorem b3p (c : Bool) (n : Nd) (hw : wk n) : Meth Tryz.prog 173 5 [0, 1, 2, 3, 4] [.ptr 4 0 0] [(0, (0, .row 41 3 ((n.lanes).map fun l => s1s l.base))), (1, (0, .row 42 1 ((n.lanes).map fun l => [a6f c l.done]))), (2, (0, .map (b0l c n.views))), (3, (0, .row 3 1 (n.known.map a3e))), (4, (0, .box 164 [pI n.id, pI n.inc, pI n.g, pI n.led, .ref 0 0, q3q c n.kept, r0r c n.outs, .pv (.bool n.up), .ref 1 0, pI n.version, .mp 2 0, .ref 3 0, pI n.round, pI n.low]))] (.row (.rd true) 47 1 ((a0y n 3).map fun l => [q3q true l])) [] := by
 refine p4p v3v (fn := Tryz.f173) (by kernel_rfl) (by kernel_rfl) rfl (O0 := [.row (.rd true) 47 1 ((a0y n 3).map fun l => [q3q true l])]) 5 4 (s0s rfl) (by rfl) (by repeat (first | exact BndH.nil | refine BndH.box rfl ?_ | refine BndH.row (w2w fun _ => rfl) ?_ | refine BndH.map (a1i _ _) ?_ )) (by repeat (exact BndH.nil )) (by rfl) fun γ => ?_
 show Ex Tryz.prog _ _ [(0, .ptr 4 (γ 4) 0)] [(0, ((γ 0), .row 41 3 ((n.lanes).map fun l => s1s l.base))), (1, ((γ 1), .row 42 1 ((n.lanes).map fun l => [a6f c l.done]))), (2, ((γ 2), .map (b0l c n.views))), (3, ((γ 3), .row 3 1 (n.known.map a3e))), (4, ((γ 4), .box 164 [pI n.id, pI n.inc, pI n.g, pI n.led, .ref 0 (γ 0), q3q c n.kept, r0r c n.outs, .pv (.bool n.up), .ref 1 (γ 1), pI n.version, .mp 2 (γ 2), .ref 3 (γ 3), pI n.round, pI n.low])), (8, (0, .dead)), (7, (0, .dead)), (6, (0, .dead)), (5, (0, .dead))] _
 refine dv 8 fun K K' => ?_
 refine a2j 3 7 47 1 rfl rfl ?_
 refine x4x (ι := Nat) (fun i γ1 => [(3, .ref 7 (γ1 7)), (5, pI (i : Int))]) (fun i γ1 => [(7, ((γ1 7), .row 47 1 ((a0y n i).map fun l => [q3q true l]))), (8, ((γ1 8), .dead)), (5, ((γ1 5), .dead)), (6, ((γ1 6), .dead))]) (fun i => i ≤ 3) (fun i => 3 - i) (x7x 0 rfl Cov.nil) (a0p [0, 1, 2, 3, 4] rfl) 0 (by omega) [0, 0, 0, 0, 0, _, _, _, _] x6x (HE.row rfl (by rfl) (HE.kill rfl (HE.kill rfl (HE.kill rfl HE.nil)))) rfl fun i γ1 hi => ?_
 refine dc 3 (fun K K' => aS ?_ ?_)<;>intro j<;>try simp at j
 ·obtain rfl : i = 3 := by omega
  refine dv 1 ?_
  refine p7p 3 rfl rfl (fun _ => rfl) ?_
  refine dv 4 ?_
  exact ⟨[γ 0, γ 1, γ 2, γ 3, γ 4], rfl, rfl, x5x⟩
 have htl := d2x n i
 refine dc 14 (fun K K' => aS ?_ ?_)<;>intro hc5<;>try simp at hc5
 ·have hi0 : (i : Int) = n.id := hc5
  refine dv 2 ?_
  refine z8z rfl rfl rfl (dv 1 ?_)
  exact ⟨i + 1, ⟨by omega, by omega⟩, [0, 0, 0, 0, 0, _, _, _, _], (x7x 3 rfl (Cov.cons' (t := 5) rfl (by rw [x9x (by omega) (by omega)]; rfl) Cov.nil)), x6x, (HE.row rfl (by rw [d0a hi0]) (HE.kill rfl (HE.kill rfl (HE.kill rfl HE.nil)))), x5x, rfl⟩
 have hi0 : ¬ (i : Int) = n.id := hc5
 refine dv 4 ?_
 refine rlM [0, 1, 2, 3, 4, 8] [_, _, _, _, _, _] (b8d c n i (by omega) hw.2.2.2.1 (by have := c9x hw; omega) (by have := hw.1; omega)) rfl rfl rfl ?_
 refine a9c (id := 5) e9t rfl u3u rfl rfl rfl rfl rfl ?_
 refine y6y (zs := (a0y n i ++ [a1v n (i : Int)]).map fun l => [q3q true l]) rfl rfl e9t rfl u3u rfl rfl rfl rfl (by rfl) (z7z _ _ _) (by (simp only [a0e, r7r, a0b, a0d, a0u, T47]; omega)) ?_
 refine dv 2 ?_
 refine z8z rfl rfl rfl (dv 1 ?_)
 exact ⟨i + 1, ⟨by omega, by omega⟩, [0, 0, 0, 0, 0, _, _, _, _], (x7x 3 rfl (Cov.cons' (t := 5) rfl (by rw [x9x (by omega) (by omega)]; rfl) Cov.nil)), (x7x 0 rfl Cov.nil), (HE.row rfl (by rw [c9z hi0]) (HE.kill rfl (HE.kill rfl (HE.kill rfl HE.nil)))), (u8u 0 rfl (u8u 1 rfl (u8u 2 rfl (u8u 3 rfl (u8u 4 rfl HE.nil))))), rfl⟩
theorem b8e (c : Bool) (was n : Nd) (hw : wk n) (hv : was.version = n.version) (hb : 0 ≤ n.version ∧ n.version ≤ 9998) : Meth Tryz.prog 176 5 [0, 1, 2, 3, 4] [.ptr 4 0 0, .row (.rd true) 47 1 ((a0y was 3).map fun l => [q3q true l])] [(0, (0, .row 41 3 ((n.lanes).map fun l => s1s l.base))), (1, (0, .row 42 1 ((n.lanes).map fun l => [a6f c l.done]))), (2, (0, .map (b0l c n.views))), (3, (0, .row 3 1 (n.known.map a3e))), (4, (0, .box 164 [pI n.id, pI n.inc, pI n.g, pI n.led, .ref 0 0, q3q c n.kept, r0r c n.outs, .pv (.bool n.up), .ref 1 0, pI n.version, .mp 2 0, .ref 3 0, pI n.round, pI n.low]))] (.tup []) [(4, (0, .box 164 [pI n.id, pI n.inc, pI n.g, pI n.led, .ref 0 0, q3q c n.kept, r0r c n.outs, .pv (.bool n.up), .ref 1 0, pI (a4o was n 3), .mp 2 0, .ref 3 0, pI n.round, pI n.low]))] := by
 refine p4p v3v (fn := Tryz.f176) (by kernel_rfl) (by kernel_rfl) rfl (O0 := []) 5 1 (s0s rfl) (by rfl) (by repeat (first | exact BndH.nil | refine BndH.box rfl ?_ | refine BndH.row (w2w fun _ => rfl) ?_ | refine BndH.map (a1i _ _) ?_ )) (by repeat (first | exact BndH.nil | refine BndH.box rfl ?_ )) (by rfl) fun γ => ?_
 show Ex Tryz.prog _ _ [(0, .ptr 4 (γ 4) 0), (1, .row (.rd true) 47 1 ((a0y was 3).map fun l => [q3q true l]))] [(0, ((γ 0), .row 41 3 ((n.lanes).map fun l => s1s l.base))), (1, ((γ 1), .row 42 1 ((n.lanes).map fun l => [a6f c l.done]))), (2, ((γ 2), .map (b0l c n.views))), (3, ((γ 3), .row 3 1 (n.known.map a3e))), (4, ((γ 4), .box 164 [pI n.id, pI n.inc, pI n.g, pI n.led, .ref 0 (γ 0), q3q c n.kept, r0r c n.outs, .pv (.bool n.up), .ref 1 (γ 1), pI n.version, .mp 2 (γ 2), .ref 3 (γ 3), pI n.round, pI n.low])), (5, (0, .dead))] _
 refine dv 3 ?_
 refine rlM [0, 1, 2, 3, 4] [_, _, _, _, _] (b3p c n hw) rfl rfl rfl ?_
 refine rlM [5] [_] (a0k (a0y was 3) (a0y n 3)) rfl rfl rfl ?_
 refine dc 1 (aS ?_ ?_)<;>intro hc1<;>try simp at hc1
 ·have hq : a0y was 3 = a0y n 3 := hc1
  have hnum : a4o was n 3 = n.version := by unfold a4o; rw [if_pos hq]
  refine dv 1 ?_
  exact ⟨[γ 0, γ 1, γ 2, γ 3, γ 4], rfl, rfl, HE.box rfl (by rw [hnum]; rfl) (a0p [0, 1, 2, 3] rfl)⟩
 have hq : ¬ a0y was 3 = a0y n 3 := hc1
 have hnum : a4o was n 3 = n.version + 1 := by unfold a4o; rw [if_neg hq, hv]
 refine dv 5 ?_
 refine s5s (.int .i64 (n.version + 1)) rfl rfl rfl (a6s rfl rfl (by omega) (by omega)) ?_
 refine dv 3 ?_
 exact ⟨[γ 0, γ 1, γ 2, γ 3, γ 4], rfl, rfl, HE.box rfl (by rw [hnum]; rfl) (a0p [0, 1, 2, 3] rfl)⟩
end
section
theorem c6d (c : Bool) (n : Nd) (f inc ver g : Int) (es : List Ev) : Meth Tryz.prog 71 5 [] [.agg (u1u c n), .pv (.int .i64 f), .pv (.int .i64 inc), .pv (.int .i64 ver), .pv (.int .i64 g), q3q c es] [(0, (0, .dead)), (1, (0, .dead)), (2, (0, .dead)), (3, (0, .dead)), (4, (0, .dead))] (.agg [pI (w0w n f inc ver g es).id, .pv (.bool (w0w n f inc ver g es).up), pI (w0w n f inc ver g es).inc, pI (w0w n f inc ver g es).g, .ref 0 0, .ref 1 0, .ref 2 0, pI (w0w n f inc ver g es).led, pI (w0w n f inc ver g es).version, .ref 3 0, .ref 4 0, pI (w0w n f inc ver g es).round, pI (w0w n f inc ver g es).low]) [(0, (0, .row 44 5 ((w0w n f inc ver g es).lanes.map b1w))), (1, (0, .row 56 7 ((w0w n f inc ver g es).kept.map y9y))), (2, (0, .row 141 5 ((w0w n f inc ver g es).outs.map q8q))), (3, (0, .row 190 3 ((w0w n f inc ver g es).views.map b1x))), (4, (0, .row 3 1 ((w0w n f inc ver g es).known.map a3e)))] := by
 refine mX Tryz.f71 [.agg [pI (w0w n f inc ver g es).id, .pv (.bool (w0w n f inc ver g es).up), pI (w0w n f inc ver g es).inc, pI (w0w n f inc ver g es).g, .ref 0 0, .ref 1 0, .ref 2 0, pI (w0w n f inc ver g es).led, pI (w0w n f inc ver g es).version, .ref 3 0, .ref 4 0, pI (w0w n f inc ver g es).round, pI (w0w n f inc ver g es).low]] 5 9 fun γ => ?_
 refine dv 1 ?_
 refine y0y (id := 5) rfl rfl rfl (x3x (id := 6) u9u q1q rfl (dv 3 fun K K' => ?_))
 refine x0x rfl rfl rfl (a8s c n) (dc 1 (aI ?_ ?_))<;>intro hc2<;>try simp at hc2
 ·have fX : ¬ y3y n := a1h (by simpa using hc2)
  refine dv 1 ?_
  refine rlB u9u q1q ?_
  refine dv 1 ?_
  (rw [e3t fX]; refine a0h 6 4 0 44 5 rfl rfl rfl rfl rfl ?_; refine a0h 6 5 1 56 7 rfl rfl rfl rfl rfl ?_; refine a0h 6 6 2 141 5 rfl rfl rfl rfl rfl ?_; refine a0h 6 9 3 190 3 rfl rfl rfl rfl rfl ?_; refine a0h 6 10 4 3 1 rfl rfl rfl rfl rfl ?_)
  refine dv 1 ?_
  exact ⟨[_, _, _, _, _], rfl, rfl, x5x⟩
 have fK : y3y n := a1d.1 (by simpa using hc2)
 have fS := fK.1
 have fB := w5w fS
 have fV := fS.2.2.2.2.2.1
 have fQ := fS.2.2.2.2.2.2.1
 refine dv 9 fun K K' => ?_
 refine x0x rfl rfl rfl (c6b c c n f inc ver g es) (dc 1 (aI ?_ ?_))<;>intro hc4<;>try simp at hc4
 ·have fU : ¬ a2o n f inc ver g es := a1h (by simpa using hc4)
  refine dv 2 ?_
  refine rlM [0, 1, 2, 3, 4] [_, _, _, _, _] (a9x c n (by omega)) rfl rfl rfl ?_
  refine dv 1 ?_
  rw [b4t fK fU]
  refine dv 1 ?_
  exact ⟨[_, _, _, _, _], rfl, rfl, x5x⟩
 have fH : a2o n f inc ver g es := a1d.1 (by simpa using hc4)
 obtain ⟨k, rfl⟩ : ∃ k : Nat, f = (k : Int) := ⟨f.toNat, by have := fH.2.2.1; omega⟩
 have hk3 : k < 3 := by have := fH.2.2.1; omega
 obtain ⟨kn, hkn⟩ := gE n.known k
 obtain ⟨v, hv⟩ := gE n.views k
 have hes : es.length ≤ 100 := by have := (r3r fH.2.2.2.2.2.2.2.1).1; omega
 obtain ⟨M, hM⟩ : ∃ M, M = b3u n k inc ver g es := ⟨_, rfl⟩
 have hv9 : n.version ≤ 9998 := by have := fH.2.1; omega
 have hv0 := fS.1.2.2.2.2.1.1
 refine dv 3 ?_
 refine rlM [9, 10, 11, 12, 13] [_, _, _, _, _] (b3d c n (by omega) (by omega) fQ) rfl rfl rfl ?_
 refine dv 3 ?_
 refine rlM [9, 10, 11, 12, 13] [_, _, _, _, _] (b3p c n (d2u fS)) rfl rfl rfl ?_
 refine dv 12 ?_
 refine z0z (j := k) rfl rfl a0o rfl s3s rfl rfl (y7y hkn) ?_
 refine dv 2 ?_
 refine f5j (c := max kn g) rfl rfl (by rw [Int.max_def]; split <;> split <;> omega) ?_
 refine z0z (j := k) rfl rfl a0o rfl s3s rfl rfl (y7y hkn) ?_
 refine a8w (el' := max kn g) rfl rfl s3s rfl rfl rfl hkn rfl (by omega) (.val rfl rfl .nil) rfl rfl ?_
 refine dv 6 ?_
 refine a3x (κ := Int) (enc := fun n => .int .i64 n) (ks := b7x n.views.length) (k := (k : Int)) (out := .agg (a2b c v)) v3v Tryz.underlying162 (a9f Tryz.underlying3) rfl rfl (fun _ _ _ h => d4m h) rfl (a9s _ _) (b9r hv) ?_
 refine x3x (id := 7) r1r a4s rfl (dv 1 ?_)
 refine p9p (ι := Unit) (fun _i γ1 => []) (fun _i γ1 => [(9, ((0 + 1), .row 41 3 ((M.lanes).map fun l => s1s l.base))), (10, ((0 + 1), .row 42 1 ((M.lanes).map fun l => [a6f c l.done]))), (11, ((0 + 1), .map (b0l c M.views))), (12, ((0 + 1), .row 3 1 (M.known.map a3e))), (13, ((0 + 1), .box 164 [pI M.id, pI M.inc, pI M.g, pI M.led, .ref 9 (0 + 1), q3q c M.kept, r0r c M.outs, .pv (.bool M.up), .ref 10 (0 + 1), pI M.version, .mp 11 (0 + 1), .ref 12 (0 + 1), pI M.round, pI M.low]))]) (fun _i => True) (q6q [6, 12, 13, 14] rfl) (a0p [0, 1, 2, 3, 4, 5, 6, 7, 8] rfl) ?_ fun _i γ1 hi => ?_
 ·refine dc 6 (aS ?_ ?_)<;>intro o<;>try simp at o
  ·refine dv 11 ?_
   have hL : b9l v inc ver := .inl (by omega)
   refine dv 14 ?_
   refine x0x rfl rfl rfl (b0n c c v.events es n.g n.low) (dv 12 ?_)
   refine rlB r1r a4s ?_
   refine b4f (κ := Int) (enc := fun n => .int .i64 n) (ks := b7x n.views.length) (k := (k : Int)) (es' := b0l c (n.views.set k ⟨inc, ver, es⟩)) Tryz.underlying162 (a9f Tryz.underlying3) rfl rfl rfl (fun _ _ _ h => d4m h) rfl (a9s _ _) (.inl ⟨k, d0q (y7y hv), d8g _ _ _ _⟩) ?_
   exact ⟨(), trivial, [], x6x, x6x, (HE.row rfl (by rw [hM]; (rw [a0c hv hkn hL] <;> rfl)) (HE.row rfl (by rw [hM]; (rw [a0c hv hkn hL] <;> rfl)) (HE.map rfl (by rw [hM]; (rw [a0c hv hkn hL] <;> rfl)) (HE.row rfl (by rw [hM]; (rw [a0c hv hkn hL] <;> rfl)) (HE.box rfl (by rw [hM]; (rw [a0c hv hkn hL] <;> rfl)) HE.nil))))), x5x, rfl⟩
  refine dc 5 (aS ?_ ?_)<;>intro o<;>try simp at o
  ·refine dv 6 ?_
   have hL : ¬ b9l v inc ver := by rintro (q | ⟨q1, q2⟩) <;> omega
   refine dv 1 ?_
   exact ⟨(), trivial, [], x6x, x6x, (HE.row rfl (by rw [hM]; (rw [a2d hv hkn hL] <;> rfl)) (HE.row rfl (by rw [hM]; (rw [a2d hv hkn hL] <;> rfl)) (HE.map rfl (by rw [hM]; (rw [a2d hv hkn hL] <;> rfl)) (HE.row rfl (by rw [hM]; (rw [a2d hv hkn hL] <;> rfl)) (HE.box rfl (by rw [hM]; (rw [a2d hv hkn hL] <;> rfl)) HE.nil))))), x5x, rfl⟩
  refine dc 6 (aS ?_ ?_)<;>intro o<;>try simp at o
  ·have hL : ¬ b9l v inc ver := by rintro (q | ⟨q1, q2⟩) <;> omega
   refine dv 1 ?_
   exact ⟨(), trivial, [], x6x, x6x, (HE.row rfl (by rw [hM]; (rw [a2d hv hkn hL] <;> rfl)) (HE.row rfl (by rw [hM]; (rw [a2d hv hkn hL] <;> rfl)) (HE.map rfl (by rw [hM]; (rw [a2d hv hkn hL] <;> rfl)) (HE.row rfl (by rw [hM]; (rw [a2d hv hkn hL] <;> rfl)) (HE.box rfl (by rw [hM]; (rw [a2d hv hkn hL] <;> rfl)) HE.nil))))), x5x, rfl⟩
  have hL : b9l v inc ver := .inr ⟨by omega, by omega⟩
  refine dv 14 ?_
  refine x0x rfl rfl rfl (b0n c c v.events es n.g n.low) (dv 12 ?_)
  refine rlB r1r a4s ?_
  refine b4f (κ := Int) (enc := fun n => .int .i64 n) (ks := b7x n.views.length) (k := (k : Int)) (es' := b0l c (n.views.set k ⟨inc, ver, es⟩)) Tryz.underlying162 (a9f Tryz.underlying3) rfl rfl rfl (fun _ _ _ h => d4m h) rfl (a9s _ _) (.inl ⟨k, d0q (y7y hv), d8g _ _ _ _⟩) ?_
  exact ⟨(), trivial, [], x6x, x6x, (HE.row rfl (by rw [hM]; (rw [a0c hv hkn hL] <;> rfl)) (HE.row rfl (by rw [hM]; (rw [a0c hv hkn hL] <;> rfl)) (HE.map rfl (by rw [hM]; (rw [a0c hv hkn hL] <;> rfl)) (HE.row rfl (by rw [hM]; (rw [a0c hv hkn hL] <;> rfl)) (HE.box rfl (by rw [hM]; (rw [a0c hv hkn hL] <;> rfl)) HE.nil))))), x5x, rfl⟩
 ·try dsimp only [b1e, b1f]
  obtain ⟨w1, w2, w3⟩ := d0b n k inc ver g es
  rw [← hM] at w1 w2 w3
  have hwM : wk M := by rw [hM]; exact d7m (d2u fS) hes
  have hpcM : M.lanes.length = (q2q M.id 4).length := by rw [w1, w3]; exact fS.2.2.2.2.1
  have hwA : wk (nl M (v7v M M.lanes)) := c2t _ (Nat.le_refl _) hwM
  have hLA : (v7v M M.lanes).length ≤ 4 := hwA.1
  refine dv 2 ?_
  refine rlM [9, 10, 11, 12, 13] [_, _, _, _, _] (c1o c M hwM hpcM) rfl rfl rfl ?_
  refine dv 3 ?_
  refine rlM [9, 10, 11, 12, 13] [_, _, _, _, _] (b8e c n (nl M (v7v M M.lanes)) hwA w2.symm ⟨by rw [show ((nl M (v7v M M.lanes)) : Nd).version = M.version from rfl, w2]; omega, by rw [show ((nl M (v7v M M.lanes)) : Nd).version = M.version from rfl, w2]; omega⟩) rfl rfl rfl ?_
  refine dv 3 ?_
  refine rlM [9, 10, 11, 12, 13, 0, 1, 2, 3, 4] [_, _, _, _, _, _, _, _, _, _] (c7j c n (a9n n M) (by omega) (by show (v7v M M.lanes).length ≤ 1048576; omega) (fun i l h => hwA.2.2.2.2.2.2 i l h) hwA.2.2.1) rfl rfl rfl ?_
  refine dv 3 ?_
  refine x3x (id := 8) u9u q1q rfl (dv 5 ?_)
  rw [d7l fK fH, ← hM]
  refine dv 1 ?_
  exact ⟨[_, _, _, _, _], rfl, rfl, x5x⟩
end
section
theorem c1p (c : Bool) (n : Nd) (p : Int) : Meth Tryz.prog 36 1 [] [.agg (u1u c n), .pv (.int .i64 p)] [(0, (0, .dead))] (.ref 0 0) [(0, (0, .row 56 7 ((e9b n p).map y9y)))] := by
 refine mX Tryz.f36 [.ref 0 0] 1 6 fun γ => ?_
 refine dv 1 ?_
 refine y0y (id := 1) rfl rfl rfl (dv 4 fun K K' => ?_)
 refine x0x rfl rfl rfl (a8s c n) (dc 2 (aS ?_ ?_))<;>intro hg2<;>try simp at hg2
 ·have fX : ¬ (y3y n ∧ p1p p = n.id) := fun h => a1h (by simpa using hg2) h.1
  refine dv 8 ?_
  refine a2j 4 0 56 7 rfl rfl (dv 1 ?_)
  exact ⟨[_], rfl, rfl, HE.row rfl (by rw [e5v fX]; rfl) HE.nil⟩
 have fK : y3y n := a1d.1 (by simpa using hg2)
 refine dv 1 ?_
 refine x0x rfl rfl rfl (a6h p) (dc 4 (aI ?_ ?_))<;>intro hc3<;>try simp at hc3
 ·have fX : ¬ (y3y n ∧ p1p p = n.id) := fun h => absurd h.2 (by simpa using hc3)
  refine dv 2 ?_
  refine a2j 4 0 56 7 rfl rfl (dv 1 ?_)
  exact ⟨[_], rfl, rfl, HE.row rfl (by rw [e5v fX]; rfl) HE.nil⟩
 have fF : y3y n ∧ p1p p = n.id := ⟨fK, by exact hc3⟩
 have fS := fK.1
 have fB := w5w fS
 have fV := fS.2.2.2.2.2.1
 refine dv 3 ?_
 refine rlM [2, 3, 4, 5, 6] [_, _, _, _, _] (b3d c n (by omega) (by omega) fS.2.2.2.2.2.2.1) rfl rfl rfl ?_
 refine dv 1 ?_
 refine rlM [2, 3, 4, 5, 6, 0] [_, _, _, _, _, _] (b3o c n p (b1u fS) (by omega) fS.2.2.2.2.2.1) rfl rfl rfl ?_
 refine dv 1 ?_
 skip
 refine dv 1 ?_
 exact ⟨[_], rfl, rfl, HE.row rfl (by rw [e5u fF]) HE.nil⟩
end
section
variable {n : Nd}
theorem e9l {R : Nat → La → Prop} (hR : ∀ i l k, R i l → R i (a0q l 0 k)) : ∀ (k : Nat) {ls : List La}, c4w ls ≤ k → (∀ i l, ls[i]? = some l → R i l) → ∀ i l, (v7v n ls)[i]? = some l → R i l := by
 have step : ∀ (ls : List La) (i : Nat), (∀ i l, ls[i]? = some l → R i l) → ∀ j l, (b6a n ls i)[j]? = some l → R j l := fun ls i h => by
  rcases a9m n ls i with ⟨h1, h2⟩ | ⟨l, h0, h3, h1, h2⟩
  ·rw [h1]; exact h
  ·rw [h1]
   intro j m hm
   rw [List.getElem?_set] at hm
   split at hm
   ·rename_i e
    subst e
    split at hm
    ·cases hm; exact hR _ l _ (h _ l h0)
    ·cases hm
   ·exact h j m hm
 have pass : ∀ (ls : List La), (∀ i l, ls[i]? = some l → R i l) → ∀ i, ∀ j l, (a0r n ls i)[j]? = some l → R j l := fun ls h i => by
  induction i with
  | zero => exact h
  | succ i ih => exact step _ i ih
 intro k
 induction k with
 | zero =>
  intro ls hk h
  cases hm : a7z n ls ls.length with
  | false => rw [← a8l hm]; exact pass ls h _
  | true => have hd := (a4v n ls ls.length).2 hm; omega
 | succ k ih =>
  intro ls hk h
  cases hm : a7z n ls ls.length with
  | false => rw [← a8l hm]; exact pass ls h _
  | true =>
   have hd := (a4v n ls ls.length).2 hm
   rw [← b2t hm]
   exact ih (by omega) (pass ls h _)
def f6v (x n : Nd) : Prop := y3y x ∧ b1s x n ∧ x.up = n.up ∧ x.round = n.round ∧ x.low ≤ n.low ∧ x.lanes.length = n.lanes.length ∧ ∀ (i : Nat) (l m : La), x.lanes[i]? = some l → n.lanes[i]? = some m → l.done.length ≤ m.done.length
theorem c8k (h : y3y n) : f6v n n := ⟨h, ⟨rfl, rfl, rfl, rfl, rfl, rfl, rfl⟩, rfl, rfl, Int.le_refl _, rfl, fun i l m h1 h2 => by rw [h1] at h2; cases h2; exact Nat.le_refl _⟩
theorem e9m (f inc ver g : Int) (es : List Ev) (h : y3y n) : f6v (w0w n f inc ver g es) n := by
 by_cases h2 : a2o n f inc ver g es
 ·obtain ⟨k, rfl⟩ := Int.eq_ofNat_of_zero_le h2.2.2.1.1
  have hk : k ≤ 2 := by have := h2.2.2.1.2; omega
  rw [d7l h h2]
  by_cases ho : y3y (a9n n (b3u n k inc ver g es))
  ·rw [b4r ho]
   have h3 := h.1.2.2.2.2.2.1
   have hk3 := h.1.2.2.2.2.2.2.1
   obtain ⟨v, hv0⟩ : ∃ v, n.views[k]? = some v := ⟨_, List.getElem?_eq_getElem (by omega)⟩
   obtain ⟨q, hq0⟩ : ∃ q, n.known[k]? = some q := ⟨_, List.getElem?_eq_getElem (by omega)⟩
   obtain ⟨M, hM⟩ : ∃ M, M = b3u n k inc ver g es := ⟨_, rfl⟩
   have hF : M.id = n.id ∧ M.inc = n.inc ∧ M.g = n.g ∧ M.led = n.led ∧ M.kept = n.kept ∧ M.outs = n.outs ∧ M.lanes = n.lanes ∧ M.up = n.up ∧ M.round = n.round ∧ M.low ≤ n.low := by
    by_cases l : b9l v inc ver
    ·rw [hM, a0c hv0 hq0 l]; exact ⟨rfl, rfl, rfl, rfl, rfl, rfl, rfl, rfl, rfl, Int.le_trans (d2y _ _ _ _) (d2y _ _ _ _)⟩
    ·rw [hM, a2d hv0 hq0 l]; exact ⟨rfl, rfl, rfl, rfl, rfl, rfl, rfl, rfl, rfl, Int.le_refl _⟩
   rw [← hM] at ho ⊢
   obtain ⟨f1, f2, f3, f4, f5, f6, f7, f8, f9, f10⟩ := hF
   refine ⟨ho, ⟨f1, f2, f3, f4, f5, f6, ?_⟩, f8, f9, f10, ?_, fun i l m hl hm => ?_⟩
   ·show (v7v M M.lanes).map bp = n.lanes.map bp
    rw [d2z (fun l k => rfl) _ (Nat.le_refl _), f7]
   ·show (v7v M M.lanes).length = n.lanes.length
    rw [d2w _ (Nat.le_refl _), f7]
   ·refine e9l (n := M) (R := fun i l => ∀ m, n.lanes[i]? = some m → l.done.length ≤ m.done.length) (fun i l k hR m hm => ?_) _ (Nat.le_refl _) (fun i l hl m hm => ?_) i l hl m hm
    ·have := hR m hm
     show ((l.done.take k).drop 0).length ≤ _
     rw [List.drop_zero, List.length_take]; omega
    ·rw [f7] at hl; rw [hl] at hm; cases hm; exact Nat.le_refl _
  ·rw [b4s ho]; exact c8k h
 ·rw [b4t h h2]; exact c8k h
end
section
theorem c1q (bs : List Nat) (hbs : ∀ b ∈ bs, b < 256)  : a0t Tryz.prog 13 [v8v true bs] (.pv (.bool (true))) := by
 refine pX Tryz.f13 [.pv (.bool (true))] 9 ?_
 refine dc 7 (fun K K' => aI ?_ ?_)<;>intro o<;>try simp at o
 ·refine dv 3 ?_
  refine x2x rfl ?_ rfl
  rfl
 refine dv 1 ?_
 refine a0i fun B X0 w0 => ?_
 refine txR 1 rfl rfl (dv 1 ?_)
 refine txM [] [] (b7z bs hbs) rfl rfl rfl rfl fun j hj => ?_
 obtain ⟨n, ⟨f, inc, ver, g⟩, es⟩ := j
 dsimp only at hj ⊢
 refine txR 14 rfl rfl (dv 7 ?_)
 refine x3x (id := 0) u9u q1q rfl (dv 6 ?_)
 refine u2u rfl (dv 7 ?_)
 refine x0x rfl rfl rfl (b5h true n f inc ver g es) (x3x (id := 1) u9u q1q rfl (dv 3 ?_))
 refine x0x rfl rfl rfl (p2p true n) (dv 8 ?_)
 refine rlM [3, 4, 5, 6, 7] [_, _, _, _, _] (c6d true n f inc ver g es) rfl rfl rfl ?_
 refine x3x (id := 2) u9u q1q rfl (dv 2 fun K K' => ?_)
 refine v9v (b := c0e true (w0w n f inc ver g es).lanes) 2 4 rfl rfl rfl (.ref rfl (Le.ow_map2 _ (fun _ => rfl) e3w) .nil) rfl rfl rfl rfl ?_
 refine v9v (b := q3q true (w0w n f inc ver g es).kept) 2 5 rfl rfl rfl (.ref rfl (Le.ow_map _ (fun _ => rfl) (fun _ => rfl)) .nil) rfl rfl rfl rfl ?_
 refine v9v (b := r0r true (w0w n f inc ver g es).outs) 2 6 rfl rfl rfl (.ref rfl (Le.ow_map _ (fun _ => rfl) (fun _ => rfl)) .nil) rfl rfl rfl rfl ?_
 refine v9v (b := c1z true (w0w n f inc ver g es).views) 2 9 rfl rfl rfl (.ref rfl (Le.ow_map2 _ (fun _ => rfl) e3x) .nil) rfl rfl rfl rfl ?_
 refine v9v (b := a4p true (w0w n f inc ver g es).known) 2 10 rfl rfl rfl (.ref rfl (Le.ow_map _ (fun _ => rfl) (fun _ => rfl)) .nil) rfl rfl rfl rfl ?_
 obtain ⟨X, eX⟩ : ∃ X, (w0w n f inc ver g es) = X := ⟨_, rfl⟩
 rw [eX]
 refine dv 3 ?_
 refine x0x rfl rfl rfl (d0v true true X X) (dv 1 ?_)
 refine a0l rfl (fun hc4 => ?_) (fun hc4 => ?_)
 ·(simp at hc4; done)
 try simp at hc4
 refine dc 5 (fun K K' => aI ?_ ?_)<;>intro hc6<;>try simp at hc6
 ·have fX : ¬ y3y n := a1h (by simpa using hc6)
  have eX0 := eX.symm.trans (e3t fX)
  refine dv 7 ?_
  refine x2x rfl ?_ rfl
  (rw [eX0]; rfl)
 have fK : y3y n := a1d.1 (by simpa using hc6)
 have hV := e9m f inc ver g es fK
 rw [eX] at hV
 obtain ⟨v1, v2, v3, v4, v5, v6, v7⟩ := hV
 have fS := v1.1
 have fB := w5w fS
 refine dv 5 fun K K' => ?_
 refine x4x (ι := Nat) (fun i γ1 => [(12, pI (i : Int))]) (fun i γ1 => [(8, ((γ1 8), .dead))]) (fun i => i ≤ X.lanes.length) (fun i => X.lanes.length - i) (q6q [3, 11] rfl) (a0p [0, 1, 2, 3, 4, 5, 6, 7] rfl) 0 (by omega) [0, 0, 0, 0, 0, 0, 0, 0, _] x6x x5x rfl fun i γ1 hi => ?_
 refine dc 7 (fun K K' => aS ?_ ?_)<;>intro o<;>try simp at o
 ·refine dv 3 ?_
  refine x0x rfl rfl rfl (a8s true X) (dv 1 ?_)
  refine d8t rfl rfl (fun hg19 => ?_) (fun hg19 => ?_)
  rotate_left
  ·(simp [e2y v1] at hg19; done)
  try simp at hg19
  refine dv 2 ?_
  refine x0x rfl rfl rfl (b9t true true X n) (dv 2 ?_)
  refine d8t rfl rfl (fun hg20 => ?_) (fun hg20 => ?_)
  rotate_left
  ·(simp [v2] at hg20; done)
  try simp at hg20
  refine dv 4 ?_
  refine a6o rfl rfl (by intro p q h h'; cases h; cases h'; rfl) (.inl rfl) (d6o Tryz.underlying4 _ _ _ _) ?_
  refine dv 2 ?_
  refine d8t rfl rfl (fun hg21 => ?_) (fun hg21 => ?_)
  rotate_left
  ·(simp [v3] at hg21; done)
  try simp at hg21
  refine dv 7 ?_
  refine d8t rfl rfl (fun hg22 => ?_) (fun hg22 => ?_)
  rotate_left
  ·(simp [v4] at hg22; done)
  try simp at hg22
  refine dv 8 ?_
  refine x2x rfl ?_ rfl
  exact congrArg (fun b : Bool => [AV.pv (.bool b)]) (decide_eq_true v5)
 obtain ⟨l, hl⟩ := gE X.lanes i
 obtain ⟨m, hm⟩ := gE n.lanes i
 have hlm := v7 i l m hl hm
 have hD := (a2n (fS.2.2.2.2.2.2.2.1 i l hl).2).1
 refine dv 11 fun K K' => ?_
 refine rlM [8] [_] (c1p true X l.proc) rfl rfl rfl ?_
 refine dv 2 fun K K' => ?_
 refine p7p (f := y9y) 13 rfl rfl (fun _ => rfl) ?_
 refine dv 3 ?_
 refine x4x (ι := Nat) (fun k γ2 => [(14, pI (k : Int))]) (fun k γ2 => []) (fun k => k ≤ l.done.length) (fun k => l.done.length - k) (q6q [3, 11, 12, 13] rfl) (a0p [0, 1, 2, 3, 4, 5, 6, 7, 8] rfl) 0 (by omega) [] x6x x5x rfl fun k γ2 hi => ?_
 refine dc 11 (fun K K' => aS ?_ ?_)<;>intro o<;>try simp at o
 ·refine dv 17 ?_
  refine a0l rfl (fun hc18 => ?_) (fun hc18 => ?_)
  ·(simp at hc18; omega)
  try simp at hc18
  refine dv 3 ?_
  refine x8x (b := 1) rfl rfl (by omega) (dv 1 ?_)
  exact ⟨i + 1, ⟨by omega, by omega⟩, [0, 0, 0, 0, 0, 0, 0, 0, _], x6x, x6x, x5x, x5x, rfl⟩
 obtain ⟨q, hq⟩ := gE l.done k
 have hd := e0b v1 hl hq
 have hk := y7y hd
 refine dv 9 fun K K' => ?_
 refine d8t rfl rfl (fun hg15 => ?_) (fun hg15 => ?_)
 rotate_left
 ·(simp at hg15; omega)
 try simp at hg15
 refine dv 14 ?_
 refine a6o rfl rfl (by intro a c h; cases h) (.inr rfl) (e3v _ _ _ _) ?_
 refine dv 1 ?_
 refine a0l rfl (fun hc16 => ?_) (fun hc16 => ?_)
 ·(simp at hc16; done)
 try simp at hc16
 refine dv 3 ?_
 refine x8x (b := 1) rfl rfl (by omega) (dv 1 ?_)
 exact ⟨k + 1, ⟨by omega, by omega⟩, [], x6x, x6x, x5x, x5x, rfl⟩
end
section
def X0 (w : World) : Cx := ⟨fun b => b < w.heap.size, fun b => b < w.heap.size, fun _ _ => none, fun _ _ => none⟩
theorem e9n (w : World) : SRh (X0 w) ⟨w, fun _ => False, fun b => b < w.heap.size, fun b => b < w.heap.size⟩ (fun _ => none) w := by
 refine ⟨fun _ => [], ?_, ?_, ?_, ?_, ?_, ?_, ?_, ?_, ?_, rfl, rfl, rfl, Nat.le_refl _, fun _ _ _ => rfl⟩
 ·intro id g e h; cases h
 ·intro id ge b h; cases h
 ·intro id id' ge ge' b h; cases h
 ·intro b hb; exact ⟨hb, fun id ge h => by cases h⟩
 ·intro b hb; exact hb
 ·intro b hb; exact .inl hb
 ·intro b hb; exact .inl hb
 ·intro id ge b h; cases h
 ·intro id g h; exact ⟨rfl, rfl⟩
theorem d5t (hC : a0t P f avs (.pv u)) (w : World) (vs : List Value) (hl : vs.length = avs.length) (hr : ∀ (i : Nat) (a : AV) (v : Value), avs[i]? = some a → vs[i]? = some v → VR (X0 w) w a v) :
  Calls P f vs.toArray w fun e w' => e = .returned u ∧ Below w.heap.size w w' :=
 (hC.2 (X0 w) _ (fun _ => none) w vs (e9n w) hl hr (fun id ge h => by cases h)).mono fun e w' ⟨v, he, X', hX, hS, hk, hv⟩ => by
  rw [hv.pv_inv] at he
  obtain ⟨F, hS⟩ := hS
  exact ⟨he, hS.os, hS.tape, hS.output, hS.size, fun k hk => hS.keep k hk (fun h => h)⟩
def f4d (k : IntKind) (w : World) (a : Option Addr) (len cap : Nat) (zs : List Int) : Prop :=
 (a = none ∧ len = 0 ∧ cap = 0 ∧ zs = []) ∨
 ∃ x, a = some x ∧ len ≤ cap ∧ cap ≤ maxLen ∧ zs.length = cap ∧ (∀ i, i < zs.length → w.cell? (x.add i) = some (.int k (zs.getD i 0))) ∧ ∀ n ∈ zs, (Lit.int k n).wf = true
theorem e6d (h : f4d .u8 w a len cap zs) : ∃ bs : List Nat, (∀ b ∈ bs, b < 256) ∧ VR (X0 w) w (v8v true bs) (.slice a len cap) := by
 rcases h with ⟨rfl, rfl, rfl, rfl⟩ | ⟨x, rfl, hl, hm, hz, hc, hw⟩
 ·exact ⟨[], (fun b hb => by cases hb), .cl (.row none 0 (fun _ _ => undef) (Nat.le_refl _) (Nat.zero_le _) (fun j x hx => by simp at hx) (fun j i x y hx => by simp at hx) (fun h => by simp at h) (fun ad j i x y hA => by cases hA) (fun j i x y hx => by simp at hx))⟩
 ·have hb : ∀ n ∈ zs, 0 ≤ n ∧ n < 256 := fun n hn => by
   have := hw n hn
   simp only [Lit.wf, Bool.and_eq_true, decide_eq_true_eq, IntKind.min, IntKind.max] at this
   simp [IntKind.signed, IntKind.bits] at this
   omega
  refine ⟨(zs.take len).map Int.toNat, fun b hb' => ?_, ?_⟩
  ·obtain ⟨n, hn, rfl⟩ := List.mem_map.1 hb'
   have := hb n (List.mem_of_mem_take hn)
   omega
  ·have hlen : ((zs.take len).map Int.toNat).length = len := by rw [List.length_map, List.length_take]; omega
   have hg : ∀ (j : Nat) (y : List AV), (((zs.take len).map Int.toNat).map f7b)[j]? = some y → j < len ∧ ∃ n, zs[j]? = some n ∧ y = [.pv (.int .u8 n)] := fun j y hy => by
    rw [List.getElem?_map, List.getElem?_map, List.getElem?_take] at hy
    split at hy
    ·rename_i hj
     cases hn : zs[j]? with
     | none => rw [hn] at hy; cases hy
     | some n =>
      rw [hn] at hy
      refine ⟨hj, n, rfl, ?_⟩
      have h0 := hb n (List.mem_of_getElem? hn)
      simp only [Option.map_some, Option.some.injEq] at hy
      rw [← hy, f7b, Int.toNat_of_nonneg h0.1]
    ·cases hy
   have key := CR.row (ok1 := (X0 w).ok1) (ok2 := (X0 w).ok2) (w := w) (m := true) (ty := 5) (sz := 1) (xs := ((zs.take len).map Int.toNat).map f7b) (some x) cap (fun j _ => .int .u8 (zs.getD j 0))
    (by rw [List.length_map, hlen]; exact hl) hm (fun j y hy => by obtain ⟨_, n, _, rfl⟩ := hg j y hy; rfl)
    (fun j i y z hy hz' => by
     obtain ⟨_, n, _, rfl⟩ := hg j y hy
     cases i with
     | zero => simp at hz'; subst hz'; rfl
     | succ i => simp at hz')
    (fun hp => ⟨x, rfl, by
     rw [List.length_map, hlen] at hp
     have := hc 0 (by omega)
     have h2 := World.block_lt_of_cell? w _ this
     show x.block < w.heap.size
     simpa [Addr.add] using h2⟩)
    (fun ad j i y z hA hy hz' => by
     cases hA
     obtain ⟨hj, n, hn, rfl⟩ := hg j y hy
     cases i with
     | zero =>
      have := hc j (by omega)
      simpa using this
     | succ i => simp at hz')
    (fun j i y z hy hz' => by
     obtain ⟨hj, n, hn, rfl⟩ := hg j y hy
     cases i with
     | zero =>
      simp at hz'; subst hz'
      rw [List.getD_eq_getElem?_getD, hn]
      exact .pv _
     | succ i => simp at hz')
   rw [List.length_map, hlen] at key
   exact .cl key
end
end Go.Proofs.YtlgknoapdbpojaaGreat.Am
