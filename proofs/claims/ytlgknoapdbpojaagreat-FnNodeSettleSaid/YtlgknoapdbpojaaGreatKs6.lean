/- Part 6 of the texts that the proof of LawFnNodeSettle leans on, merged by program. -/
import Derived.Test.YtlgknoapdbpojaaGreatKs5
set_option linter.unusedVariables false
set_option linter.unusedSimpArgs false
set_option maxHeartbeats 4000000
set_option autoImplicit true
set_option relaxedAutoImplicit true
namespace Go.Proofs.YtlgknoapdbpojaaGreat.Am
open Go Go.RowKit
section
theorem a6l (c : Bool) (n : Nd) (es : List (Value × AV)) (hes : ∀ p ∈ es, p.2.flatA = true) (i : Nat) (l : La) (hl : n.lanes[i]? = some l) (hp : (q6q n.id 4)[i]? = some l.proc) : Meth Tryz.prog 242 5 [0, 1, 2, 3, 4] [.ptr 4 0 0, .pv (.int .i64 (i : Int))] [(0, (0, .row 41 3 ((n.lanes).map fun l => q8q l.base))), (1, (0, .row 42 1 ((n.lanes).map fun l => [a7g c l.done]))), (2, (0, .map es)), (3, (0, .row 3 1 (n.known.map a3i))), (4, (0, .box 164 [pI n.id, pI n.inc, pI n.g, pI n.led, .ref 0 0, s1s c n.kept, q7q c n.outs, .pv (.bool n.up), .ref 1 0, pI n.version, .mp 2 0, .ref 3 0, pI n.round, pI n.low]))] (.agg (q1q c l)) [] := by
 refine s2s p1p (fn := Tryz.f242) (by kernel_rfl) (by kernel_rfl) rfl (O0 := [.agg (q1q c l)]) 5 1 (a0g rfl) (by rfl) (by repeat (first | exact BndH.nil | refine BndH.box rfl ?_ | refine BndH.row (v6v fun _ => rfl) ?_ | refine BndH.map hes ?_ )) (by repeat (exact BndH.nil )) (by rfl) fun γ => ?_
 show Ex Tryz.prog _ _ [(0, .ptr 4 (γ 4) 0), (1, .pv (.int .i64 (i : Int)))] [(0, ((γ 0), .row 41 3 ((n.lanes).map fun l => q8q l.base))), (1, ((γ 1), .row 42 1 ((n.lanes).map fun l => [a7g c l.done]))), (2, ((γ 2), .map es)), (3, ((γ 3), .row 3 1 (n.known.map a3i))), (4, ((γ 4), .box 164 [pI n.id, pI n.inc, pI n.g, pI n.led, .ref 0 (γ 0), s1s c n.kept, q7q c n.outs, .pv (.bool n.up), .ref 1 (γ 1), pI n.version, .mp 2 (γ 2), .ref 3 (γ 3), pI n.round, pI n.low])), (5, (0, .dead))] _
 refine dv 1 ?_
 refine x2x (id := 5) a0k a6r rfl (dv 6 ?_)
 refine x0x rfl rfl rfl (a7i ..) (dv 9 ?_)
 refine y3y (j := i) rfl rfl d1i rfl a2x rfl rfl (z0z hl) ?_
 refine dv 6 ?_
 refine y3y (j := i) rfl rfl b8k rfl a6m rfl rfl (z0z hl) ?_
 refine dv 1 ?_
 refine rlB a0k a6r ?_
 refine dv 2 ?_
 exact ⟨[γ 0, γ 1, γ 2, γ 3, γ 4], rfl, rfl, x4x⟩
theorem b9s (c : Bool) (n : Nd) (hlen : n.lanes.length ≤ 1048576) (hN : ∀ (i : Nat) l, n.lanes[i]? = some l → (q6q n.id 4)[i]? = some l.proc) (hv3 : n.views.length = 3) : Meth Tryz.prog 159 7 [0, 1, 2, 3, 4] [.ptr 4 0 0] [(0, (0, .row 41 3 ((n.lanes).map fun l => q8q l.base))), (1, (0, .row 42 1 ((n.lanes).map fun l => [a7g c l.done]))), (2, (0, .map (b4a c n.views))), (3, (0, .row 3 1 (n.known.map a3i))), (4, (0, .box 164 [pI n.id, pI n.inc, pI n.g, pI n.led, .ref 0 0, s1s c n.kept, q7q c n.outs, .pv (.bool n.up), .ref 1 0, pI n.version, .mp 2 0, .ref 3 0, pI n.round, pI n.low])), (5, (0, .dead)), (6, (0, .dead))] (.agg [pI n.id, .pv (.bool n.up), pI n.inc, pI n.g, .ref 5 0, s1s c n.kept, q7q c n.outs, pI n.led, pI n.version, .ref 6 0, .ref 3 0, pI n.round, pI n.low]) [(5, (0, .row 44 5 ((n.lanes).map (q1q c)))), (6, (0, .row 190 3 (n.views.map (a2l c))))] := by
 refine s2s p1p (fn := Tryz.f159) (by kernel_rfl) (by kernel_rfl) rfl (O0 := [.agg [pI n.id, .pv (.bool n.up), pI n.inc, pI n.g, .ref 5 0, s1s c n.kept, q7q c n.outs, pI n.led, pI n.version, .ref 6 0, .ref 3 0, pI n.round, pI n.low]]) 7 6 (a0g rfl) (by rfl) (by repeat (first | exact BndH.nil | refine BndH.dead ?_ | refine BndH.box rfl ?_ | refine BndH.row (v6v fun _ => rfl) ?_ | refine BndH.map (a0w _ _) ?_ )) (by repeat (first | exact BndH.nil | refine BndH.row (v6v fun _ => rfl) ?_ )) (by rfl) fun γ => ?_
 show Ex Tryz.prog _ _ [(0, .ptr 4 (γ 4) 0)] [(0, ((γ 0), .row 41 3 ((n.lanes).map fun l => q8q l.base))), (1, ((γ 1), .row 42 1 ((n.lanes).map fun l => [a7g c l.done]))), (2, ((γ 2), .map (b4a c n.views))), (3, ((γ 3), .row 3 1 (n.known.map a3i))), (4, ((γ 4), .box 164 [pI n.id, pI n.inc, pI n.g, pI n.led, .ref 0 (γ 0), s1s c n.kept, q7q c n.outs, .pv (.bool n.up), .ref 1 (γ 1), pI n.version, .mp 2 (γ 2), .ref 3 (γ 3), pI n.round, pI n.low])), (5, ((γ 5), .dead)), (6, ((γ 6), .dead)), (12, (0, .dead)), (11, (0, .dead)), (10, (0, .dead)), (9, (0, .dead)), (8, (0, .dead)), (7, (0, .dead))] _
 refine dv 1 ?_
 refine x2x (id := 7) u6u p9p rfl (dv 51 ?_)
 refine rlB u6u p9p ?_
 refine x2x (id := 8) u6u p9p rfl (dv 11 fun K K' => ?_)
 refine a0f 8 4 5 44 5 rfl rfl rfl rfl rfl ?_
 refine x5x (ι := Nat) (fun i γ1 => [(63, pI (i : Int))]) (fun i γ1 => [(5, ((γ1 5), .row 44 5 ((n.lanes.take i).map (q1q c)))), (8, ((0 + 1), .box 65 [pI n.id, .pv (.bool n.up), pI n.inc, pI n.g, .ref 5 (γ1 5), s1s c n.kept, q7q c n.outs, pI n.led, pI n.version, .pv (.slice none 0 0), .ref 3 (γ 3), pI n.round, pI n.low])), (9, ((γ1 9), .dead)), (10, ((γ1 10), .dead))]) (fun i => i ≤ n.lanes.length) (fun i => n.lanes.length - i) (q3q [0, 2, 3, 62] rfl) (a0j [0, 1, 2, 3, 4, 6, 7, 11, 12] rfl) 0 (by omega) [0, 0, 0, 0, 0, _, 0, 0, 0, _, _] x6x (HE.row rfl (by rw [List.take_zero]; rfl) (HE.box rfl rfl (HE.kill rfl (HE.kill rfl HE.nil)))) rfl fun i γ1 hi => ?_
 refine dc 3 (fun K K' => aI ?_ ?_)<;>intro o<;>try simp at o
 ·obtain ⟨l, hl⟩ := gE n.lanes i
  refine dv 11 fun K K' => ?_
  refine rlM [0, 1, 2, 3, 4] [_, _, _, _, _] (a6l c n _ (a0w _ _) i l hl (hN i l hl)) rfl rfl rfl ?_
  refine y2y (id := 9) a8c rfl a0k rfl rfl rfl rfl rfl rfl ?_
  refine y7y (zs := (n.lanes.take i ++ [l]).map (q1q c)) rfl rfl a8c rfl a0k rfl rfl rfl rfl (by rfl) (z7z _ _ _) (by (simp only [s3s, r0r, r5r, r8r, a0p, a2m, T44]; omega)) ?_
  refine dv 3 ?_
  refine u1u rfl rfl rfl (dv 1 ?_)
  exact ⟨i + 1, ⟨by omega, by omega⟩, [0, 0, 0, 0, 0, _, 0, 0, 0, _, _], (Cov.cons' (t := 63) rfl (by rw [x9x (by omega) (by omega)]; rfl) Cov.nil), x6x, (HE.row rfl (by simp only [z8z hl, List.map_append, List.map_cons, List.map_nil]) (HE.box rfl rfl (HE.kill rfl (HE.kill rfl HE.nil)))), x4x, rfl⟩
 obtain rfl : i = n.lanes.length := by omega
 rw [List.take_length]
 refine dv 5 fun K K' => ?_
 refine a0f 8 9 6 190 3 rfl rfl rfl rfl rfl ?_
 refine x5x (ι := Nat) (fun i γ2 => [(75, pI (i : Int))]) (fun i γ2 => [(6, ((γ2 6), .row 190 3 ((n.views.take i).map (a2l c)))), (8, ((0 + 1), .box 65 [pI n.id, .pv (.bool n.up), pI n.inc, pI n.g, .ref 5 (γ1 5), s1s c n.kept, q7q c n.outs, pI n.led, pI n.version, .ref 6 (γ2 6), .ref 3 (γ 3), pI n.round, pI n.low])), (11, ((γ2 11), .dead)), (12, ((γ2 12), .dead))]) (fun i => i ≤ 3) (fun i => 3 - i) (q3q [0, 2, 3] rfl) (a0j [0, 1, 2, 3, 4, 5, 7, 9, 10] rfl) 0 (by omega) [0, 0, 0, 0, 0, 0, _, 0, 0, 0, 0, _, _] x6x (HE.row rfl (by rfl) (HE.box rfl rfl (HE.kill rfl (HE.kill rfl HE.nil)))) rfl fun i γ2 hi => ?_
 refine dc 3 (fun K K' => aS ?_ ?_)<;>intro o<;>try simp at o
 ·obtain rfl : i = 3 := by omega
  refine dv 5 ?_
  exact ⟨[γ 0, γ 1, γ 2, γ 3, γ 4, _, _], rfl, rfl, HE.row rfl rfl (HE.row rfl (by rw [List.take_of_length_le (by omega)]) (a0j [0, 1, 2, 3, 4] rfl))⟩
 obtain ⟨v, hv⟩ := gE n.views i
 refine dv 14 fun K K' => ?_
 refine a5w (κ := Int) (enc := fun n => .int .i64 n) (ks := c5j n.views.length) (k := (i : Int)) (out := .agg (a2l c v)) p1p Tryz.underlying162 (c3j Tryz.underlying3) rfl rfl (fun _ _ _ h => f1c h) rfl (c5k _ _) (d3i hv) ?_
 refine y2y (id := 11) a9w rfl s5s rfl rfl rfl rfl rfl rfl ?_
 refine y7y (zs := (n.views.take i).map (a2l c) ++ [a2l c v]) rfl rfl a9w rfl s5s rfl rfl rfl rfl (by rfl) rfl (by simp only [r0r, s3s, a2m, a0p, r5r, r8r, T190]; omega) ?_
 refine dv 3 ?_
 refine u1u rfl rfl rfl (dv 1 ?_)
 exact ⟨i + 1, ⟨by omega, by omega⟩, [0, 0, 0, 0, 0, 0, _, 0, 0, 0, 0, _, _], (Cov.cons' (t := 75) rfl (by rw [x9x (by omega) (by omega)]; rfl) Cov.nil), x6x, (HE.row rfl (by rw [z8z hv, List.map_append]; rfl) (HE.box rfl rfl (HE.kill rfl (HE.kill rfl HE.nil)))), x4x, rfl⟩
end
section
theorem c5v (c c' : Bool) (l : La) (s : List Ev) : a0t Tryz.prog 150 [.agg (q1q c l), s1s c' s] (.tup [.agg (y8y (a3g l s).1), .pv (.bool (a3g l s).2)]) := by
 refine pX Tryz.f150 [.agg (y8y (a3g l s).1), .pv (.bool (a3g l s).2)] 3 ?_
 refine u9u 1 rfl fun hlen => ?_
 have hsm := c2i l.done s
 refine dv 1 ?_
 refine x8x (id := 0) rfl rfl rfl (x2x (id := 1) z2z a6n rfl (dv 4 ?_))
 refine rlM [2] [_] (b6o c l.done) rfl rfl rfl ?_
 refine dv 1 ?_
 refine rlM [2] [_] (a7z c c' l.done s) rfl rfl rfl ?_
 refine dc 9 (fun K K' => aS ?_ ?_)<;>intro h<;>try simp at h
 ·refine dv 6 ?_
  refine rlB z2z a6n ?_
  refine dv 3 ?_
  (rw [e3d (by omega)]; exact ⟨_, _, rfl, .agg rfl (.cl rfl (.cl rfl (.cl rfl (.cl rfl (.cl rfl (.cl rfl (.cl rfl .nil))))))) (.cl rfl .nil)⟩)
 refine dc 5 (aI ?_ ?_)<;>intro h<;>try simp at h
 ·refine dv 1 ?_
  refine rlB z2z a6n ?_
  refine dv 3 ?_
  (rw [e3f (by omega)]; exact ⟨_, _, rfl, .agg rfl (.cl rfl (.cl rfl (.cl rfl (.cl rfl (.cl rfl (.cl rfl (.cl rfl .nil))))))) (.cl rfl .nil)⟩)
 have hlt : same l.done s < s.length := by omega
 obtain ⟨e, he⟩ : ∃ e, s[same l.done s]? = some e := ⟨_, List.getElem?_eq_getElem hlt⟩
 refine dv 5 ?_
 refine u8u (out := .agg (y8y e)) rfl z2z rfl ?_
 refine dv 3 ?_
 (rw [e3g (by omega) he]; exact ⟨_, _, rfl, .agg rfl (.cl rfl (.cl rfl (.cl rfl (.cl rfl (.cl rfl (.cl rfl (.cl rfl .nil))))))) (.cl rfl .nil)⟩)
end
section
theorem c5w (c : Bool) (n : Nd) (fK : y4y n) : Meth Tryz.prog 142 5 [0, 1, 2, 3, 4] [.ptr 4 0 0] [(0, (0, .row 41 3 ((n.lanes).map fun l => q8q l.base))), (1, (0, .row 42 1 ((n.lanes).map fun l => [a7g c l.done]))), (2, (0, .map (b4a c n.views))), (3, (0, .row 3 1 (n.known.map a3i))), (4, (0, .box 164 [pI n.id, pI n.inc, pI n.g, pI n.led, .ref 0 0, s1s c n.kept, q7q c n.outs, .pv (.bool n.up), .ref 1 0, pI n.version, .mp 2 0, .ref 3 0, pI n.round, pI n.low]))] (.pv (.int .i64 (f3t n))) [] := by
 refine s2s p1p (fn := Tryz.f142) (by kernel_rfl) (by kernel_rfl) rfl (O0 := [.pv (.int .i64 (f3t n))]) 5 3 (a0g rfl) (by rfl) (by repeat (first | exact BndH.nil | refine BndH.box rfl ?_ | refine BndH.row (v6v fun _ => rfl) ?_ | refine BndH.map (a0w _ _) ?_ )) (by repeat (exact BndH.nil )) (by rfl) fun γ => ?_
 show Ex Tryz.prog _ _ [(0, .ptr 4 (γ 4) 0)] [(0, ((γ 0), .row 41 3 ((n.lanes).map fun l => q8q l.base))), (1, ((γ 1), .row 42 1 ((n.lanes).map fun l => [a7g c l.done]))), (2, ((γ 2), .map (b4a c n.views))), (3, ((γ 3), .row 3 1 (n.known.map a3i))), (4, ((γ 4), .box 164 [pI n.id, pI n.inc, pI n.g, pI n.led, .ref 0 (γ 0), s1s c n.kept, q7q c n.outs, .pv (.bool n.up), .ref 1 (γ 1), pI n.version, .mp 2 (γ 2), .ref 3 (γ 3), pI n.round, pI n.low])), (7, (0, .dead)), (6, (0, .dead)), (5, (0, .dead))] _
 have fS := fK.1
 have fB := v9v fS
 have fL := fS.2.2.2.2.1
 refine dv 11 fun K K' => ?_
 refine x0x rfl rfl rfl (a7i ..) (dv 3 ?_)
 refine x5x (ι := Nat) (fun i γ1 => [(3, pI (a9y n i)), (15, pI (i : Int))]) (fun i γ1 => [(6, ((γ1 6), .dead)), (5, ((γ1 5), .dead))]) (fun i => i ≤ n.lanes.length) (fun i => n.lanes.length - i) (q3q [0, 13, 14] rfl) (a0j [0, 1, 2, 3, 4, 7] rfl) 0 (by omega) [0, 0, 0, 0, 0, _, _] x6x x4x rfl fun i γ1 hi => ?_
 refine dc 3 (fun K K' => aS ?_ ?_)<;>intro j<;>try simp at j
 ·obtain rfl : i = n.lanes.length := by omega
  refine dv 5 ?_
  exact ⟨[γ 0, γ 1, γ 2, γ 3, γ 4], rfl, rfl, x4x⟩
 obtain ⟨l, hl⟩ := gE n.lanes i
 have hnc := b4q fK hl
 refine dv 5 fun K K' => ?_
 refine a9c rfl rfl a0l rfl s4s rfl hnc.1 ?_
 refine dv 6 ?_
 refine rlM [0, 1, 2, 3, 4] [_, _, _, _, _] (a6l c n _ (a0w _ _) i l hl hnc.1) rfl rfl rfl ?_
 refine dv 2 ?_
 refine rlM [0, 1, 2, 3, 4, 6] [_, _, _, _, _, _] (b3u c n l.proc (a8y fS) (by omega) fS.2.2.2.2.2.1) rfl rfl rfl ?_
 refine b2m rfl rfl rfl (f7m rfl rfl (.ref rfl (Le.ow_map _ nf (fun _ => rfl)) .nil)) (c5v c false l (a0y n l.proc)) (.tup (a3r (.agg (d9h (evN _))) (a3r (.pv _) e9x))) ?_
 refine dv 3 ?_
 refine x2x (id := 5) z2z a6n rfl (dc 5 (aS ?_ ?_))<;>intro hg5<;>try simp at hg5
 ·have hno : ¬ ((a3g l (a0y n l.proc)).2 = true ∧ (a3g l (a0y n l.proc)).1.time < a9y n i) := fun h => by have := h.1; simp_all
  refine dv 7 ?_
  refine x7x (b := 1) rfl rfl (by omega) (dv 1 ?_)
  exact ⟨i + 1, ⟨by omega, by omega⟩, [0, 0, 0, 0, 0, _, _], (Cov.cons' (t := 3) rfl (congrArg (fun v : Int => AV.pv (.int .i64 v)) (c4g hl hno).symm) (y0y 15 rfl Cov.nil)), x6x, x4x, x4x, rfl⟩
 have h2 : (a3g l (a0y n l.proc)).2 = true := hg5
 refine dc 5 (aS ?_ ?_)<;>intro j<;>try simp at j
 ·have hno : ¬ ((a3g l (a0y n l.proc)).2 = true ∧ (a3g l (a0y n l.proc)).1.time < a9y n i) := by (intro h; omega)
  refine dv 2 ?_
  refine x7x (b := 1) rfl rfl (by omega) (dv 1 ?_)
  exact ⟨i + 1, ⟨by omega, by omega⟩, [0, 0, 0, 0, 0, _, _], (Cov.cons' (t := 3) rfl (congrArg (fun v : Int => AV.pv (.int .i64 v)) (c4g hl hno).symm) (y0y 15 rfl Cov.nil)), x6x, x4x, x4x, rfl⟩
 have h3 : (a3g l (a0y n l.proc)).1.time < a9y n i := by omega
 refine dv 5 ?_
 refine x7x (b := 1) rfl rfl (by omega) (dv 1 ?_)
 exact ⟨i + 1, ⟨by omega, by omega⟩, [0, 0, 0, 0, 0, _, _], (Cov.cons' (t := 3) rfl (congrArg (fun v : Int => AV.pv (.int .i64 v)) (d4r hl ⟨h2, h3⟩).symm) (y0y 15 rfl Cov.nil)), x6x, x4x, x4x, rfl⟩
end
section
theorem c1i (c : Bool) (l : La) (u : Int) (hok : a6c l = true) : a0t Tryz.prog 114 [.agg (q1q c l), .pv (.int .i64 u)] (.tup [.agg (q1q c (a4m u l)), s1s true (b4r u l), q7q true (c0r u l)]) := by
 refine pX Tryz.f114 [.agg (q1q c (a4m u l)), s1s true (b4r u l), q7q true (c0r u l)] 7 ?_
 obtain ⟨h1, h2⟩ := a1i hok
 refine dv 1 ?_
 refine x8x (id := 0) rfl rfl rfl (x2x (id := 1) a0k a6r rfl (dv 10 fun K K' => ?_))
 refine a1m 7 4 56 7 rfl rfl (a1m 8 5 141 5 rfl rfl ?_)
 refine x5x (ι := Nat) (fun i γ1 => [(7, .ref 4 (γ1 4)), (8, .ref 5 (γ1 5)), (9, pI (i : Int))]) (fun i γ1 => [(4, ((γ1 4), .row 56 7 (((l.done.take i).flatMap Pa.sends).map y8y))), (5, ((γ1 5), .row 141 5 (((l.done.take i).flatMap Pa.outs).map w3w))), (0, ((0 + 1), .box 44 [pI l.proc, pI (a3u l i).x, pI (a3u l i).y, pI (a3u l i).count, a7g c l.done])), (2, ((γ1 2), .dead)), (3, ((γ1 3), .dead))]) (fun i => i ≤ l.done.length ∧ (∀ (j : Nat) p, j < i → l.done[j]? = some p → p.ev.time < u)) (fun i => l.done.length - i) (q3q [1, 2, 4] rfl) (a0j [1, 6] rfl) 0 ⟨by omega, fun j p hj => by omega⟩ [0, 0, _, _, _, _] x6x (HE.row rfl (by rfl) (HE.row rfl (by rfl) (HE.box rfl rfl (HE.kill rfl (HE.kill rfl HE.nil))))) rfl fun i γ1 hi => ?_
 obtain ⟨k1, k2⟩ := hi
 refine dc 8 (fun K K' => aS ?_ ?_)<;>intro h<;>try simp at h
 ·have hcut : b8y u l.done = i := c4i k1 k2 (fun q hq => by rw [List.getElem?_eq_none (by omega)] at hq; cases hq)
  refine dv 10 ?_
  have hfs := a6d (f := Pa.sends) (m := 2) k1 fun p hp => (h2 p hp).1
  have hfo := a6d (f := Pa.outs) (m := 2) k1 fun p hp => (h2 p hp).2
  refine dv 5 ?_
  refine b0i rfl a6m rfl a4k rfl rfl rfl (by omega) (by (rw [List.length_map]; omega)) (by (rw [List.length_map]; omega)) ?_
  rw [c0t]
  refine dv 2 ?_
  refine w5w 7 rfl rfl (fun _ => rfl) ?_
  refine w5w 8 rfl rfl (fun _ => rfl) ?_
  refine dv 3 ?_
  refine rlM [6] [_] (a3l true _ (by omega)) rfl rfl rfl ?_
  refine dv 1 ?_
  refine x0x rfl rfl rfl (b0x true _ (by omega)) ?_
  refine dv 3 ?_
  refine w5w 5 rfl rfl (fun _ => rfl) ?_
  refine dv 1 ?_
  subst hcut
  exact ⟨_, _, rfl, .agg rfl (.cl rfl (.cl rfl (.cl rfl (.cl rfl (.cl rfl .nil))))) (.cl rfl (.cl rfl .nil))⟩
 obtain ⟨p, hp⟩ := gE l.done i
 have hpb := h2 p (List.mem_of_getElem? hp)
 refine dc 10 (aS ?_ ?_)<;>intro hc4<;>try simp at hc4
 ·have hcut : b8y u l.done = i := by exact c4i k1 k2 (fun q hq => by rw [hp] at hq; cases hq; omega)
  have hfs := a6d (f := Pa.sends) (m := 2) k1 fun p hp => (h2 p hp).1
  have hfo := a6d (f := Pa.outs) (m := 2) k1 fun p hp => (h2 p hp).2
  refine dv 5 ?_
  refine b0i rfl a6m rfl a4k rfl rfl rfl (by omega) (by (rw [List.length_map]; omega)) (by (rw [List.length_map]; omega)) ?_
  rw [c0t]
  refine dv 2 ?_
  refine w5w 7 rfl rfl (fun _ => rfl) ?_
  refine w5w 8 rfl rfl (fun _ => rfl) ?_
  refine dv 3 ?_
  refine rlM [6] [_] (a3l true _ (by omega)) rfl rfl rfl ?_
  refine dv 1 ?_
  refine x0x rfl rfl rfl (b0x true _ (by omega)) ?_
  refine dv 3 ?_
  refine w5w 5 rfl rfl (fun _ => rfl) ?_
  refine dv 1 ?_
  subst hcut
  exact ⟨_, _, rfl, .agg rfl (.cl rfl (.cl rfl (.cl rfl (.cl rfl (.cl rfl .nil))))) (.cl rfl (.cl rfl .nil))⟩
 have hlt : p.ev.time < u := hc4
 have hfs := a6d (f := Pa.sends) (m := 2) (show i ≤ l.done.length by omega) fun p hp => (h2 p hp).1
 have hfo := a6d (f := Pa.outs) (m := 2) (show i ≤ l.done.length by omega) fun p hp => (h2 p hp).2
 refine dv 10 ?_
 refine w2w (zs := ((l.done.take i).flatMap Pa.sends ++ p.sends).map y8y) rfl rfl u4u rfl z2z rfl rfl rfl (z6z (fun _ => rfl) _) (a5c _ _ _) (by (simp only [s3s, r0r, r5r, r8r, a0p, b3h, T56]; omega)) ?_
 refine dv 9 ?_
 refine w2w (zs := ((l.done.take i).flatMap Pa.outs ++ p.outs).map w3w) rfl rfl p5p rfl z9z rfl rfl rfl (z6z (fun _ => rfl) _) (a5c _ _ _) (by (simp only [s3s, r0r, r5r, r8r, a0p, b3h, T141]; omega)) ?_
 refine dv 7 ?_
 refine u8u (out := .agg (q8q p.after)) rfl a2x rfl ?_
 refine dv 1 ?_
 refine a0u rfl rfl a2x rfl rfl rfl rfl (a0g rfl) rfl ?_
 refine dv 2 ?_
 refine x7x (b := 1) rfl rfl (by omega) (dv 1 ?_)
 exact ⟨i + 1, ⟨⟨by omega, fun j q hj hq => by by_cases e : j = i; (subst e; rw [hp] at hq; cases hq; exact hlt); exact k2 j q (by omega) hq⟩, by omega⟩, [0, 0, _, _, _, _], x6x, x6x, (HE.row rfl (by rw [a2h hp]) (HE.row rfl (by rw [a2h hp]) (HE.box rfl (by rw [b2w hp]; rfl) (HE.kill rfl (HE.kill rfl HE.nil))))), x4x, rfl⟩
end
section
theorem b5y (c : Bool) (n : Nd) (e : Ev) (hok : okE e = true) (hk3 : n.known.length = 3) : Meth Tryz.prog 250 6 [0, 1, 2, 3, 4, 5] [.agg (y8y e), .ptr 5 0 0] [(0, (0, .row 41 3 ((n.lanes).map fun l => q8q l.base))), (1, (0, .row 42 1 ((n.lanes).map fun l => [a7g c l.done]))), (2, (0, .map (b4a c n.views))), (3, (0, .row 3 1 (n.known.map a3i))), (4, (0, .box 164 [pI n.id, pI n.inc, pI n.g, pI n.led, .ref 0 0, s1s c n.kept, q7q c n.outs, .pv (.bool n.up), .ref 1 0, pI n.version, .mp 2 0, .ref 3 0, pI n.round, pI n.low])), (5, (0, .box 148 [.ptr 4 0 0]))] (.pv (.bool (b2z n.known e))) [] := by
 refine s2s p1p (fn := Tryz.f250) (by kernel_rfl) (by kernel_rfl) rfl (O0 := [.pv (.bool (b2z n.known e))]) 6 1 (a0g rfl) (by rfl) (by repeat (first | exact BndH.nil | refine BndH.box rfl ?_ | refine BndH.row (v6v fun _ => rfl) ?_ | refine BndH.map (a0w _ _) ?_ )) (by repeat (exact BndH.nil )) (by rfl) fun γ => ?_
 show Ex Tryz.prog _ _ [(0, .agg (y8y e)), (1, .ptr 5 (γ 5) 0)] [(0, ((γ 0), .row 41 3 ((n.lanes).map fun l => q8q l.base))), (1, ((γ 1), .row 42 1 ((n.lanes).map fun l => [a7g c l.done]))), (2, ((γ 2), .map (b4a c n.views))), (3, ((γ 3), .row 3 1 (n.known.map a3i))), (4, ((γ 4), .box 164 [pI n.id, pI n.inc, pI n.g, pI n.led, .ref 0 (γ 0), s1s c n.kept, q7q c n.outs, .pv (.bool n.up), .ref 1 (γ 1), pI n.version, .mp 2 (γ 2), .ref 3 (γ 3), pI n.round, pI n.low])), (5, ((γ 5), .box 148 [.ptr 4 (γ 4) 0])), (6, (0, .dead))] _
 obtain ⟨k, v, hk, hv, hw⟩ := d7b hok hk3
 refine dv 1 ?_
 refine x8x (id := 6) rfl rfl rfl (dv 10 ?_)
 refine x0x rfl rfl rfl (b3i ..) ?_
 refine y3y (j := k) rfl (by rw [← hk]; rfl) a0l rfl s4s rfl rfl (z0z hv) ?_
 refine dv 4 ?_
 exact ⟨[γ 0, γ 1, γ 2, γ 3, γ 4, γ 5], rfl, congrArg (fun b : Bool => some [AV.pv (.bool b)]) (by exact hw.symm), (w4w 0 rfl (w4w 1 rfl (w4w 2 rfl (w4w 3 rfl (w4w 4 rfl (w4w 5 rfl HE.nil))))))⟩
theorem a8i (c : Bool) (n : Nd) (l : List Ev) (hok : ∀ e ∈ l, okE e = true) (hk3 : n.known.length = 3) (hl : l.length ≤ 10000000) : Meth Tryz.prog 230 6 [0, 1, 2, 3, 4, 5] [s1s true l, .fn (.func 250) [] [.ptr 5 0 0]] [(0, (0, .row 41 3 ((n.lanes).map fun l => q8q l.base))), (1, (0, .row 42 1 ((n.lanes).map fun l => [a7g c l.done]))), (2, (0, .map (b4a c n.views))), (3, (0, .row 3 1 (n.known.map a3i))), (4, (0, .box 164 [pI n.id, pI n.inc, pI n.g, pI n.led, .ref 0 0, s1s c n.kept, q7q c n.outs, .pv (.bool n.up), .ref 1 0, pI n.version, .mp 2 0, .ref 3 0, pI n.round, pI n.low])), (5, (0, .box 148 [.ptr 4 0 0]))] (s1s true (l.filter (b2z n.known))) [] := by
 refine s2s p1p (fn := Tryz.f230) (by kernel_rfl) (by kernel_rfl) rfl (O0 := [s1s true (l.filter (b2z n.known))]) 6 4 (a0g rfl) (by rfl) (by repeat (first | exact BndH.nil | refine BndH.box rfl ?_ | refine BndH.row (v6v fun _ => rfl) ?_ | refine BndH.map (a0w _ _) ?_ )) (by repeat (exact BndH.nil )) (by rfl) fun γ => ?_
 show Ex Tryz.prog _ _ [(0, s1s true l), (1, .fn (.func 250) [] [.ptr 5 (γ 5) 0])] [(0, ((γ 0), .row 41 3 ((n.lanes).map fun l => q8q l.base))), (1, ((γ 1), .row 42 1 ((n.lanes).map fun l => [a7g c l.done]))), (2, ((γ 2), .map (b4a c n.views))), (3, ((γ 3), .row 3 1 (n.known.map a3i))), (4, ((γ 4), .box 164 [pI n.id, pI n.inc, pI n.g, pI n.led, .ref 0 (γ 0), s1s c n.kept, q7q c n.outs, .pv (.bool n.up), .ref 1 (γ 1), pI n.version, .mp 2 (γ 2), .ref 3 (γ 3), pI n.round, pI n.low])), (5, ((γ 5), .box 148 [.ptr 4 (γ 4) 0])), (9, (0, .dead)), (8, (0, .dead)), (7, (0, .dead)), (6, (0, .dead))] _
 refine dv 10 fun K K' => ?_
 refine a1m 5 9 56 7 rfl rfl ?_
 refine x5x (ι := Nat) (fun i γ1 => [(5, .ref 9 (γ1 9)), (10, pI (i : Int))]) (fun i γ1 => [(9, ((γ1 9), .row 56 7 (((l.take i).filter (b2z n.known)).map y8y))), (6, ((γ1 6), .dead)), (7, ((γ1 7), .dead)), (8, ((γ1 8), .dead))]) (fun i => i ≤ l.length) (fun i => l.length - i) (q3q [1, 8, 9] rfl) (a0j [0, 1, 2, 3, 4, 5] rfl) 0 (by omega) [0, 0, 0, 0, 0, 0, _, _, _, _] x6x (HE.row rfl (by rw [List.take_zero]; rfl) (HE.kill rfl (HE.kill rfl (HE.kill rfl HE.nil)))) rfl fun i γ1 hi => ?_
 refine dc 3 (fun K K' => aS ?_ ?_)<;>intro h<;>try simp at h
 ·obtain rfl : i = l.length := by omega
  rw [List.take_length]
  refine dv 1 ?_
  refine w5w 5 rfl rfl (fun _ => rfl) ?_
  refine dv 4 ?_
  exact ⟨[γ 0, γ 1, γ 2, γ 3, γ 4, γ 5], rfl, rfl, x4x⟩
 obtain ⟨p, hp⟩ := gE l i
 have hfl : ((l.take i).filter (b2z n.known)).length ≤ 10000000 := Nat.le_trans (List.length_filter_le _ _) (by rw [List.length_take]; omega)
 refine dv 6 fun K K' => ?_
 refine x2x (id := 6) z2z a6n rfl (dv 4 ?_)
 refine rlM [0, 1, 2, 3, 4, 5] [_, _, _, _, _, _] (b5y c n p (hok p (List.mem_of_getElem? hp)) hk3) rfl rfl rfl ?_
 refine dc 0 (aS ?_ ?_)<;>intro hc5<;>try simp at hc5
 ·have hw : ¬ b2z n.known p = true := by rw [hc5]; decide
  refine dv 2 ?_
  refine u1u rfl rfl rfl (dv 1 ?_)
  exact ⟨i + 1, ⟨by omega, by omega⟩, [0, 0, 0, 0, 0, 0, _, _, _, _], (y0y 5 rfl (Cov.cons' (t := 10) rfl (by rw [x9x (by omega) (by omega)]; rfl) Cov.nil)), x6x, (HE.row rfl (by rw [p7p hp]; rw [if_neg hw, List.append_nil]) (HE.kill rfl (HE.kill rfl (HE.kill rfl HE.nil)))), x4x, rfl⟩
 have hw : b2z n.known p = true := hc5
 refine dv 3 ?_
 refine y2y (id := 7) u4u rfl z2z rfl rfl rfl rfl rfl rfl ?_
 refine y7y (zs := ((l.take i).filter (b2z n.known) ++ [p]).map y8y) rfl rfl u4u rfl z2z rfl rfl rfl rfl (by rfl) (z7z _ _ _) (by (simp only [s3s, r0r, r5r, r8r, a0p, a2m, T56] at *; omega)) ?_
 refine dv 2 ?_
 refine u1u rfl rfl rfl (dv 1 ?_)
 exact ⟨i + 1, ⟨by omega, by omega⟩, [0, 0, 0, 0, 0, 0, _, _, _, _], (y0y 5 rfl (Cov.cons' (t := 10) rfl (by rw [x9x (by omega) (by omega)]; rfl) Cov.nil)), (y0y 1 rfl (y0y 8 rfl (y0y 9 rfl Cov.nil))), (HE.row rfl (by rw [p7p hp]; rw [if_pos hw]) (HE.kill rfl (HE.kill rfl (HE.kill rfl HE.nil)))), (w4w 0 rfl (w4w 1 rfl (w4w 2 rfl (w4w 3 rfl (w4w 4 rfl (w4w 5 rfl HE.nil)))))), rfl⟩
theorem b9t (c : Bool) (n : Nd) (g : Int) (fS : a0q n) : Meth Tryz.prog 165 5 [0, 1, 2, 3, 4] [.ptr 4 0 0, .pv (.int .i64 g)] [(0, (0, .row 41 3 ((n.lanes).map fun l => q8q l.base))), (1, (0, .row 42 1 ((n.lanes).map fun l => [a7g c l.done]))), (2, (0, .map (b4a c n.views))), (3, (0, .row 3 1 (n.known.map a3i))), (4, (0, .box 164 [pI n.id, pI n.inc, pI n.g, pI n.led, .ref 0 0, s1s c n.kept, q7q c n.outs, .pv (.bool n.up), .ref 1 0, pI n.version, .mp 2 0, .ref 3 0, pI n.round, pI n.low]))] (.tup []) [(0, (0, .row 41 3 (((w0w n g).lanes).map fun l => q8q l.base))), (1, (0, .row 42 1 (((w0w n g).lanes).map fun l => [a7g c l.done]))), (2, (0, .map (b4a c (w0w n g).views))), (3, (0, .row 3 1 ((w0w n g).known.map a3i))), (4, (0, .box 164 [pI (w0w n g).id, pI (w0w n g).inc, pI (w0w n g).g, pI (w0w n g).led, .ref 0 0, s1s true (w0w n g).kept, q7q true (w0w n g).outs, .pv (.bool (w0w n g).up), .ref 1 0, pI (w0w n g).version, .mp 2 0, .ref 3 0, pI (w0w n g).round, pI (w0w n g).low]))] := by
 refine s2s p1p (fn := Tryz.f165) (by kernel_rfl) (by kernel_rfl) rfl (O0 := []) 5 7 (a0g rfl) (by rfl) (by repeat (first | exact BndH.nil | refine BndH.box rfl ?_ | refine BndH.row (v6v fun _ => rfl) ?_ | refine BndH.map (a0w _ _) ?_ )) (by repeat (first | exact BndH.nil | refine BndH.box rfl ?_ | refine BndH.row (v6v fun _ => rfl) ?_ | refine BndH.map (a0w _ _) ?_ )) (by rfl) fun γ => ?_
 show Ex Tryz.prog _ _ [(0, .ptr 4 (γ 4) 0), (1, .pv (.int .i64 g))] [(0, ((γ 0), .row 41 3 ((n.lanes).map fun l => q8q l.base))), (1, ((γ 1), .row 42 1 ((n.lanes).map fun l => [a7g c l.done]))), (2, ((γ 2), .map (b4a c n.views))), (3, ((γ 3), .row 3 1 (n.known.map a3i))), (4, ((γ 4), .box 164 [pI n.id, pI n.inc, pI n.g, pI n.led, .ref 0 (γ 0), s1s c n.kept, q7q c n.outs, .pv (.bool n.up), .ref 1 (γ 1), pI n.version, .mp 2 (γ 2), .ref 3 (γ 3), pI n.round, pI n.low])), (11, (0, .dead)), (10, (0, .dead)), (9, (0, .dead)), (8, (0, .dead)), (7, (0, .dead)), (6, (0, .dead)), (5, (0, .dead))] _
 have fB := v9v fS
 have fL := c4n fS
 obtain ⟨k, hk, hk3, hkn⟩ := e3k fS
 have hkl := fS.2.2.2.2.2.2.1
 obtain ⟨kn, hkv⟩ := gE n.known k
 have hKk : n.known.set n.id.toNat g = n.known.set k g := by rw [hkn]
 refine dv 1 ?_
 refine c8n (id := 5) rfl rfl rfl rfl (dv 6 ?_)
 refine rlM [9] [_] (v2v c n.kept (by omega)) rfl rfl rfl ?_
 refine dv 5 ?_
 refine rlM [10] [_] (a0m c n.outs (by omega)) rfl rfl rfl ?_
 refine dv 12 fun K K' => ?_
 refine x5x (ι := Nat) (fun i γ1 => [(4, .ref 9 (γ1 9)), (5, .ref 10 (γ1 10)), (28, pI (i : Int))]) (fun i γ1 => [(9, ((γ1 9), .row 56 7 ((a2j n g i).map y8y))), (10, ((γ1 10), .row 141 5 ((b0k n g i).map w3w))), (0, ((γ 0), .row 41 3 ((b3x g n.lanes i).map fun l => q8q l.base))), (1, ((γ 1), .row 42 1 ((b3x g n.lanes i).map fun l => [a7g c l.done]))), (6, ((γ1 6), .dead)), (7, ((γ1 7), .dead)), (8, ((γ1 8), .dead))]) (fun i => i ≤ n.lanes.length) (fun i => n.lanes.length - i) (q3q [1, 2, 27] rfl) (a0j [2, 3, 4, 5, 11] rfl) 0 (by omega) [0, 0, 0, 0, 0, 0, _, _, _, _, _] x6x (HE.row rfl (by rw [c4l]) (HE.row rfl (by rw [c4m]) (HE.row rfl (by rw [c0s]) (HE.row rfl (by rw [c0s]) (HE.kill rfl (HE.kill rfl (HE.kill rfl HE.nil))))))) rfl fun i γ1 hi => ?_
 refine dc 3 (fun K K' => aS ?_ ?_)<;>intro h<;>try simp at h
 ·obtain rfl : i = n.lanes.length := by omega
  have hkt := b8z fS g n.lanes.length
  have hot := b9a fS g n.lanes.length
  refine dv 19 ?_
  refine y3y (j := k) rfl (by rw [← hk]; rfl) a0l rfl s4s rfl rfl (z0z hkv) ?_
  refine a8v (el' := g) rfl rfl s4s rfl rfl rfl hkv rfl (by omega) (.val rfl rfl .nil) rfl rfl ?_
  refine dv 0 ?_
  refine w5w 4 rfl rfl (fun _ => rfl) ?_
  refine dv 3 ?_
  refine b7g rfl rfl ?_
  refine rlM [0, 1, 2, 3, 4, 5] [_, _, _, _, _, _] (a8i c ({ n with g := g, lanes := b3x g n.lanes n.lanes.length, known := n.known.set k g } : Nd) (a2j n g n.lanes.length) (fun e he => d2n fS he) (by show (n.known.set k g).length = 3; rw [List.length_set]; exact hkl) (by omega)) rfl rfl rfl ?_
  refine rlM [11] [_] (a3l true _ (Nat.le_trans (List.length_filter_le _ _) (by omega))) rfl rfl rfl ?_
  refine dv 4 ?_
  refine b1o 11 (xs' := (w0w n g).kept.map y8y) rfl (by simp only [w0w, hKk]) ?_
  refine v5v (b := s1s true (w0w n g).kept) 4 5 rfl rfl rfl (.ref rfl (Le.ow_map _ (fun _ => rfl) (fun _ => rfl)) .nil) rfl rfl rfl rfl ?_
  refine w5w 5 rfl rfl (fun _ => rfl) ?_
  refine dv 3 ?_
  refine x0x rfl rfl rfl (b0x true _ (by omega)) ?_
  refine dv 4 ?_
  exact ⟨[γ 0, γ 1, γ 2, γ 3, γ 4], rfl, rfl, HE.row rfl (by rw [c4j]; rfl) (HE.row rfl (by rw [c4j]; rfl) (w4w 2 rfl (HE.row rfl (by rw [← hKk]; rfl) (HE.box rfl rfl HE.nil))))⟩
 obtain ⟨l, hp⟩ := gE n.lanes i
 have hkt := b8z fS g (i + 1)
 rw [b2x hp, List.length_append] at hkt
 have hot := b9a fS g (i + 1)
 rw [b2y hp, List.length_append] at hot
 have hlt2 : i < (b3x g n.lanes i).length := by rw [d2m _ _ (by omega)]; omega
 refine dv 9 fun K K' => ?_
 refine rlM [0, 1, 2, 3, 4] [_, _, _, _, _] (a6l c ({ n with lanes := b3x g n.lanes i } : Nd) _ (a0w _ _) i l (c2j hp) (fS.2.2.2.2.2.2.2.1 i l hp).1) rfl rfl rfl ?_
 refine dv 1 ?_
 refine x0x rfl rfl rfl (c1i c l g (fL l (List.mem_of_getElem? hp))) ?_
 refine dv 4 ?_
 refine x2x (id := 6) a0k a6r rfl (dv 16 ?_)
 refine y9y (out := .agg (q8q (a4m g l).base)) rfl a2x rfl rfl ?_
 refine dv 2 ?_
 refine y3y (j := i) rfl rfl d1i rfl a2x rfl rfl hlt2 ?_
 refine u3u (el' := a4m g l) rfl rfl a2x rfl rfl rfl (c2j hp) rfl (a0x _) rfl rfl ?_
 refine y3y (j := i) rfl rfl b8k rfl a6m rfl rfl hlt2 ?_
 refine a8v (el' := a4m g l) rfl rfl a6m rfl rfl rfl (c2j hp) rfl (by omega) (.val rfl rfl .nil) rfl rfl ?_
 refine dv 3 ?_
 refine w2w (zs := (a2j n g i ++ b4r g l).map y8y) rfl rfl u4u rfl z2z rfl rfl rfl (z6z (fun _ => rfl) _) (a5c _ _ _) (by (simp only [s3s, r0r, r5r, r8r, a0p, a2m, T56] at *; omega)) ?_
 refine dv 4 ?_
 refine w2w (zs := (b0k n g i ++ c0r g l).map w3w) rfl rfl p5p rfl z9z rfl rfl rfl (z6z (fun _ => rfl) _) (a5c _ _ _) (by (simp only [s3s, r0r, r5r, r8r, a0p, a2m, T141] at *; omega)) ?_
 refine dv 2 ?_
 refine u1u rfl rfl rfl (dv 1 ?_)
 exact ⟨i + 1, ⟨by omega, by omega⟩, [0, 0, 0, 0, 0, 0, _, _, _, _, _], (y0y 4 rfl (y0y 5 rfl (Cov.cons' (t := 28) rfl (by rw [x9x (by omega) (by omega)]; rfl) Cov.nil))), x6x, (HE.row rfl (by rw [b2x hp]) (HE.row rfl (by rw [b2y hp]) (HE.row rfl (by rw [c4k hp]) (HE.row rfl (by rw [c4k hp]) (HE.kill rfl (HE.kill rfl (HE.kill rfl HE.nil))))))), x4x, rfl⟩
end
section
theorem c7b (c : Bool) (n0 n : Nd) (h0 : cNd n0 ≤ 1048576) (hlen : n.lanes.length ≤ 1048576) (hN : ∀ (i : Nat) l, n.lanes[i]? = some l → (q6q n.id 4)[i]? = some l.proc) (hv3 : n.views.length = 3) : Meth Tryz.prog 166 10 [0, 1, 2, 3, 4] [.agg (u2u c n0), .ptr 4 0 0] [(0, (0, .row 41 3 ((n.lanes).map fun l => q8q l.base))), (1, (0, .row 42 1 ((n.lanes).map fun l => [a7g c l.done]))), (2, (0, .map (b4a c n.views))), (3, (0, .row 3 1 (n.known.map a3i))), (4, (0, .box 164 [pI n.id, pI n.inc, pI n.g, pI n.led, .ref 0 0, s1s c n.kept, q7q c n.outs, .pv (.bool n.up), .ref 1 0, pI n.version, .mp 2 0, .ref 3 0, pI n.round, pI n.low])), (5, (0, .dead)), (6, (0, .dead)), (7, (0, .dead)), (8, (0, .dead)), (9, (0, .dead))] (.tup [.agg [pI (s8s n0 n).1.id, .pv (.bool (s8s n0 n).1.up), pI (s8s n0 n).1.inc, pI (s8s n0 n).1.g, .ref 5 0, .ref 6 0, .ref 7 0, pI (s8s n0 n).1.led, pI (s8s n0 n).1.version, .ref 8 0, .ref 9 0, pI (s8s n0 n).1.round, pI (s8s n0 n).1.low], .pv (.bool ((s8s n0 n).2))]) [(5, (0, .row 44 5 ((s8s n0 n).1.lanes.map b1v))), (6, (0, .row 56 7 ((s8s n0 n).1.kept.map y8y))), (7, (0, .row 141 5 ((s8s n0 n).1.outs.map w3w))), (8, (0, .row 190 3 ((s8s n0 n).1.views.map b1w))), (9, (0, .row 3 1 ((s8s n0 n).1.known.map a3i)))] := by
 refine s2s p1p (fn := Tryz.f166) (by kernel_rfl) (by kernel_rfl) rfl (O0 := [.agg [pI (s8s n0 n).1.id, .pv (.bool (s8s n0 n).1.up), pI (s8s n0 n).1.inc, pI (s8s n0 n).1.g, .ref 5 0, .ref 6 0, .ref 7 0, pI (s8s n0 n).1.led, pI (s8s n0 n).1.version, .ref 8 0, .ref 9 0, pI (s8s n0 n).1.round, pI (s8s n0 n).1.low], .pv (.bool ((s8s n0 n).2))]) 10 5 (a0g rfl) (by rfl) (by repeat (first | exact BndH.nil | refine BndH.dead ?_ | refine BndH.box rfl ?_ | refine BndH.row (v6v fun _ => rfl) ?_ | refine BndH.map (a0w _ _) ?_ )) (by repeat (first | exact BndH.nil | refine BndH.row (v6v fun _ => rfl) ?_ )) (by rfl) fun γ => ?_
 show Ex Tryz.prog _ _ [(0, .agg (u2u c n0)), (1, .ptr 4 (γ 4) 0)] [(0, ((γ 0), .row 41 3 ((n.lanes).map fun l => q8q l.base))), (1, ((γ 1), .row 42 1 ((n.lanes).map fun l => [a7g c l.done]))), (2, ((γ 2), .map (b4a c n.views))), (3, ((γ 3), .row 3 1 (n.known.map a3i))), (4, ((γ 4), .box 164 [pI n.id, pI n.inc, pI n.g, pI n.led, .ref 0 (γ 0), s1s c n.kept, q7q c n.outs, .pv (.bool n.up), .ref 1 (γ 1), pI n.version, .mp 2 (γ 2), .ref 3 (γ 3), pI n.round, pI n.low])), (5, ((γ 5), .dead)), (6, ((γ 6), .dead)), (7, ((γ 7), .dead)), (8, ((γ 8), .dead)), (9, ((γ 9), .dead)), (14, (0, .dead)), (13, (0, .dead)), (12, (0, .dead)), (11, (0, .dead)), (10, (0, .dead))] _
 refine dv 1 ?_
 refine x8x (id := 10) rfl rfl rfl (x2x (id := 11) u6u p9p rfl (dv 3 ?_))
 refine rlM [0, 1, 2, 3, 4, 13, 14] [_, _, _, _, _, _, _] (b9s c n hlen hN hv3) rfl rfl rfl ?_
 refine x2x (id := 12) u6u p9p rfl (dv 4 fun K K' => ?_)
 refine b2m rfl rfl rfl (c4q rfl rfl rfl .nil) (a8r false n) (.pv _) ?_
 refine dc 1 (aI ?_ ?_)<;>intro hc2<;>try simp at hc2
 ·have fX : ¬ y4y n := a1f (by simpa using hc2)
  refine dv 2 ?_
  refine rlM [5, 6, 7, 8, 9] [_, _, _, _, _] (s9s c n0 h0) rfl rfl rfl ?_
  refine dv 2 ?_
  rw [b1s fX]
  refine dv 1 ?_
  exact ⟨[γ 0, γ 1, γ 2, γ 3, γ 4, _, _, _, _, _], rfl, rfl, HE.row rfl rfl (HE.row rfl rfl (HE.row rfl rfl (HE.row rfl rfl (HE.row rfl rfl ((a0j [0, 1, 2, 3, 4] rfl))))))⟩
 have fK : y4y n := a1c.1 (by simpa using hc2)
 refine dv 3 ?_
 refine e6x [5, 6, 7, 8, 9] [_, _, _, _, _] (s9s false n (by have := v9v fK.1; omega)) rfl rfl rfl (LendM.base (c4q rfl rfl rfl .nil)) rfl (by decide) rfl rfl f0h (by (simp only [pI, a1z, a2b, b9v, gl, nx, a7c, Nat.beq]; rfl)) (by (simp only [pI, a1z, a2b, b9v, gl, nx, a7c, Nat.beq]; rfl)) rfl rfl (f4x rfl) (by repeat (first | exact StrH.nil | refine StrH.dead ?_)) (f7n .nil) ?_
 refine dv 2 ?_
 rw [b1r fK]
 refine dv 1 ?_
 exact ⟨[γ 0, γ 1, γ 2, γ 3, γ 4, _, _, _, _, _], rfl, rfl, HE.row rfl rfl (HE.row rfl rfl (HE.row rfl rfl (HE.row rfl rfl (HE.row rfl rfl ((a0j [0, 1, 2, 3, 4] rfl))))))⟩
end
section
theorem c1j (c : Bool) (n : Nd) (r g : Int) : Meth Tryz.prog 68 5 [] [.agg (u2u c n), .pv (.int .i64 r), .pv (.int .i64 g)] [(0, (0, .dead)), (1, (0, .dead)), (2, (0, .dead)), (3, (0, .dead)), (4, (0, .dead))] (.tup [.agg [pI (z1z n r g).1.id, .pv (.bool (z1z n r g).1.up), pI (z1z n r g).1.inc, pI (z1z n r g).1.g, .ref 0 0, .ref 1 0, .ref 2 0, pI (z1z n r g).1.led, pI (z1z n r g).1.version, .ref 3 0, .ref 4 0, pI (z1z n r g).1.round, pI (z1z n r g).1.low], .pv (.bool ((z1z n r g).2))]) [(0, (0, .row 44 5 ((z1z n r g).1.lanes.map b1v))), (1, (0, .row 56 7 ((z1z n r g).1.kept.map y8y))), (2, (0, .row 141 5 ((z1z n r g).1.outs.map w3w))), (3, (0, .row 190 3 ((z1z n r g).1.views.map b1w))), (4, (0, .row 3 1 ((z1z n r g).1.known.map a3i)))] := by
 refine mX Tryz.f68 [.agg [pI (z1z n r g).1.id, .pv (.bool (z1z n r g).1.up), pI (z1z n r g).1.inc, pI (z1z n r g).1.g, .ref 0 0, .ref 1 0, .ref 2 0, pI (z1z n r g).1.led, pI (z1z n r g).1.version, .ref 3 0, .ref 4 0, pI (z1z n r g).1.round, pI (z1z n r g).1.low], .pv (.bool ((z1z n r g).2))] 5 7 fun γ => ?_
 refine dv 1 ?_
 refine x8x (id := 5) rfl rfl rfl (x2x (id := 6) u6u p9p rfl (dv 4 fun K K' => ?_))
 refine x0x rfl rfl rfl (a8r c n) (dc 1 (aI ?_ ?_))<;>intro hc2<;>try simp at hc2
 ·have fX : ¬ y4y n := a1f (by simpa using hc2)
  refine dv 1 ?_
  refine rlB u6u p9p ?_
  refine dv 2 ?_
  (rw [c2k fX]; refine a0f 6 4 0 44 5 rfl rfl rfl rfl rfl ?_; refine a0f 6 5 1 56 7 rfl rfl rfl rfl rfl ?_; refine a0f 6 6 2 141 5 rfl rfl rfl rfl rfl ?_; refine a0f 6 9 3 190 3 rfl rfl rfl rfl rfl ?_; refine a0f 6 10 4 3 1 rfl rfl rfl rfl rfl ?_)
  refine dv 1 ?_
  exact ⟨[_, _, _, _, _], rfl, rfl, x4x⟩
 have fK : y4y n := a1c.1 (by simpa using hc2)
 have fS := fK.1
 have fB := v9v fS
 have fV := fS.2.2.2.2.2.1
 have fN : ∀ (i : Nat) l, n.lanes[i]? = some l → (q6q n.id 4)[i]? = some l.proc := fun i l h => (fS.2.2.2.2.2.2.2.1 i l h).1
 refine dv 3 ?_
 refine rlM [7, 8, 9, 10, 11] [_, _, _, _, _] (b3l c n (by omega) (by omega) fS.2.2.2.2.2.2.1) rfl rfl rfl ?_
 refine dc 5 (aS ?_ ?_)<;>intro hg3<;>try simp at hg3
 ·have fU : ¬ a4h n r g := by (rintro ⟨m1, m2, m3, m4, m5, m6, m7, m8⟩; (simp_all; done))
  refine dv 43 fun K K' => ?_
  refine rlM [0, 1, 2, 3, 4] [_, _, _, _, _] (s9s c n (by omega)) rfl rfl rfl ?_
  refine dv 2 ?_
  rw [a1v fK fU]
  refine dv 1 ?_
  exact ⟨[_, _, _, _, _], rfl, rfl, x4x⟩
 have fUp : n.up = true := hg3
 refine dc 4 (aS ?_ ?_)<;>intro j<;>try simp at j
 ·have fU : ¬ a4h n r g := by (rintro ⟨m1, m2, m3, m4, m5, m6, m7, m8⟩; omega)
  refine dv 39 fun K K' => ?_
  refine rlM [0, 1, 2, 3, 4] [_, _, _, _, _] (s9s c n (by omega)) rfl rfl rfl ?_
  refine dv 2 ?_
  rw [a1v fK fU]
  refine dv 1 ?_
  exact ⟨[_, _, _, _, _], rfl, rfl, x4x⟩
 refine dc 6 (aS ?_ ?_)<;>intro j<;>try simp at j
 ·have fU : ¬ a4h n r g := by (rintro ⟨m1, m2, m3, m4, m5, m6, m7, m8⟩; omega)
  refine dv 33 fun K K' => ?_
  refine rlM [0, 1, 2, 3, 4] [_, _, _, _, _] (s9s c n (by omega)) rfl rfl rfl ?_
  refine dv 2 ?_
  rw [a1v fK fU]
  refine dv 1 ?_
  exact ⟨[_, _, _, _, _], rfl, rfl, x4x⟩
 refine dc 6 (aS ?_ ?_)<;>intro j<;>try simp at j
 ·have fU : ¬ a4h n r g := by (rintro ⟨m1, m2, m3, m4, m5, m6, m7, m8⟩; omega)
  refine dv 27 fun K K' => ?_
  refine rlM [0, 1, 2, 3, 4] [_, _, _, _, _] (s9s c n (by omega)) rfl rfl rfl ?_
  refine dv 2 ?_
  rw [a1v fK fU]
  refine dv 1 ?_
  exact ⟨[_, _, _, _, _], rfl, rfl, x4x⟩
 refine dc 4 (aS ?_ ?_)<;>intro j<;>try simp at j
 ·have fU : ¬ a4h n r g := by (rintro ⟨m1, m2, m3, m4, m5, m6, m7, m8⟩; omega)
  refine dv 23 fun K K' => ?_
  refine rlM [0, 1, 2, 3, 4] [_, _, _, _, _] (s9s c n (by omega)) rfl rfl rfl ?_
  refine dv 2 ?_
  rw [a1v fK fU]
  refine dv 1 ?_
  exact ⟨[_, _, _, _, _], rfl, rfl, x4x⟩
 refine dc 6 (aS ?_ ?_)<;>intro j<;>try simp at j
 ·have fU : ¬ a4h n r g := by (rintro ⟨m1, m2, m3, m4, m5, m6, m7, m8⟩; omega)
  refine dv 17 fun K K' => ?_
  refine rlM [0, 1, 2, 3, 4] [_, _, _, _, _] (s9s c n (by omega)) rfl rfl rfl ?_
  refine dv 2 ?_
  rw [a1v fK fU]
  refine dv 1 ?_
  exact ⟨[_, _, _, _, _], rfl, rfl, x4x⟩
 refine dv 1 ?_
 refine rlM [7, 8, 9, 10, 11] [_, _, _, _, _] (c5w c n fK) rfl rfl rfl ?_
 refine dc 4 (aS ?_ ?_)<;>intro j<;>try simp at j
 ·have fU : ¬ a4h n r g := by (rintro ⟨m1, m2, m3, m4, m5, m6, m7, m8⟩; omega)
  refine dv 11 fun K K' => ?_
  refine rlM [0, 1, 2, 3, 4] [_, _, _, _, _] (s9s c n (by omega)) rfl rfl rfl ?_
  refine dv 2 ?_
  rw [a1v fK fU]
  refine dv 1 ?_
  exact ⟨[_, _, _, _, _], rfl, rfl, x4x⟩
 refine dc 9 (fun K K' => aI ?_ ?_)<;>intro j<;>try simp at j
 ·have fU : ¬ a4h n r g := by (rintro ⟨m1, m2, m3, m4, m5, m6, m7, m8⟩; omega)
  refine dv 2 ?_
  refine rlM [0, 1, 2, 3, 4] [_, _, _, _, _] (s9s c n (by omega)) rfl rfl rfl ?_
  refine dv 2 ?_
  rw [a1v fK fU]
  refine dv 1 ?_
  exact ⟨[_, _, _, _, _], rfl, rfl, x4x⟩
 have fM : a4h n r g := ⟨fUp, by omega, by omega, by omega, by omega, by omega, by omega, by omega⟩
 refine dv 4 ?_
 refine rlM [7, 8, 9, 10, 11] [_, _, _, _, _] (b9t c n g fS) rfl rfl rfl ?_
 refine d6l 11 rfl (.same (.same (.same (.same (.same (.le (b := s1s c (w0w n g).kept) rfl (Le.low_map fun _ => rfl) rfl (.le (b := q7q c (w0w n g).outs) rfl (Le.low_map fun _ => rfl) rfl (LeCs.refl _)))))))) ?_
 refine dv 3 ?_
 refine rlM [7, 8, 9, 10, 11, 0, 1, 2, 3, 4] [_, _, _, _, _, _, _, _, _, _] (c7b c n (w0w n g) (by omega) (by show (n.lanes.map (a4m g)).length ≤ 1048576; rw [List.length_map]; omega) (fun i l h => by obtain ⟨l0, e1, e2⟩ := f1y h; subst e2; exact fN i l0 e1) fV) rfl rfl rfl ?_
 refine dv 4 ?_
 rw [b9c fK fM]
 refine dv 1 ?_
 exact ⟨[_, _, _, _, _], rfl, rfl, x4x⟩
end
section
theorem b9u (c : Bool) (n : Nd) (hs : (r7r n).length ≤ 5000000) (hlen : n.lanes.length ≤ 1048576) : Meth Tryz.prog 229 6 [0, 1, 2, 3, 4] [.ptr 4 0 0] [(0, (0, .row 41 3 ((n.lanes).map fun l => q8q l.base))), (1, (0, .row 42 1 ((n.lanes).map fun l => [a7g c l.done]))), (2, (0, .map (b4a c n.views))), (3, (0, .row 3 1 (n.known.map a3i))), (4, (0, .box 164 [pI n.id, pI n.inc, pI n.g, pI n.led, .ref 0 0, s1s c n.kept, q7q c n.outs, .pv (.bool n.up), .ref 1 0, pI n.version, .mp 2 0, .ref 3 0, pI n.round, pI n.low])), (5, (0, .dead))] (s1s true (r7r n)) [(5, (0, .dead))] := by
 refine s2s p1p (fn := Tryz.f229) (by kernel_rfl) (by kernel_rfl) rfl (O0 := [s1s true (r7r n)]) 6 2 (a0g rfl) (by rfl) (by repeat (first | exact BndH.nil | refine BndH.dead ?_ | refine BndH.box rfl ?_ | refine BndH.row (v6v fun _ => rfl) ?_ | refine BndH.map (a0w _ _) ?_ )) (by repeat (first | exact BndH.nil | refine BndH.dead ?_ )) (by rfl) fun γ => ?_
 show Ex Tryz.prog _ _ [(0, .ptr 4 (γ 4) 0)] [(0, ((γ 0), .row 41 3 ((n.lanes).map fun l => q8q l.base))), (1, ((γ 1), .row 42 1 ((n.lanes).map fun l => [a7g c l.done]))), (2, ((γ 2), .map (b4a c n.views))), (3, ((γ 3), .row 3 1 (n.known.map a3i))), (4, ((γ 4), .box 164 [pI n.id, pI n.inc, pI n.g, pI n.led, .ref 0 (γ 0), s1s c n.kept, q7q c n.outs, .pv (.bool n.up), .ref 1 (γ 1), pI n.version, .mp 2 (γ 2), .ref 3 (γ 3), pI n.round, pI n.low])), (5, ((γ 5), .dead)), (7, (0, .dead)), (6, (0, .dead))] _
 have hkl : n.kept.length ≤ 5000000 := by simp only [r7r, r0r] at hs; omega
 refine dv 8 ?_
 refine rlM [5] [_] (v2v c n.kept (by omega)) rfl rfl rfl ?_
 refine dv 10 fun K K' => ?_
 refine x5x (ι := Nat) (fun i γ1 => [(3, .ref 5 (γ1 5)), (19, pI (i : Int))]) (fun i γ1 => [(5, ((γ1 5), .row 56 7 ((n.kept ++ (n.lanes.take i).flatMap a5n).map y8y))), (6, ((γ1 6), .dead)), (7, ((γ1 7), .dead))]) (fun i => i ≤ n.lanes.length) (fun i => n.lanes.length - i) (q3q [17, 18] rfl) (a0j [0, 1, 2, 3, 4] rfl) 0 (by omega) [0, 0, 0, 0, 0, _, _, _] x6x (HE.row rfl (by simp) (HE.kill rfl (HE.kill rfl HE.nil))) rfl fun i γ1 hi => ?_
 refine dc 3 (fun K K' => aS ?_ ?_)<;>intro h<;>try simp at h
 ·obtain rfl : i = n.lanes.length := by omega
  refine dv 4 ?_
  refine w5w 2 rfl rfl (fun _ => rfl) ?_
  refine dv 1 ?_
  exact ⟨[γ 0, γ 1, γ 2, γ 3, γ 4, _], rfl, congrArg (fun l : List Ev => some [s1s true l]) (by rw [List.take_length]; rfl), x4x⟩
 obtain ⟨p, hp⟩ := gE n.lanes i
 refine dv 4 fun K K' => ?_
 refine y3y (j := i) rfl rfl b8k rfl a6m rfl rfl (z0z hp) ?_
 refine dv 7 ?_
 refine u9u 23 rfl fun hlen2 => ?_
 refine x5x (ι := Nat) (fun j γ2 => [(3, .ref 5 (γ2 5)), (25, pI (j : Int))]) (fun j γ2 => [(5, ((γ2 5), .row 56 7 ((n.kept ++ (n.lanes.take i).flatMap a5n ++ (p.done.take j).flatMap Pa.sends).map y8y))), (6, ((γ2 6), .dead)), (7, ((γ2 7), .dead))]) (fun j => j ≤ p.done.length) (fun j => p.done.length - j) (q3q [17, 18, 19, 23, 24] rfl) (a0j [0, 1, 2, 3, 4] rfl) 0 (by omega) [0, 0, 0, 0, 0, _, _, _] x6x (HE.row rfl (by simp) (HE.kill rfl (HE.kill rfl HE.nil))) rfl fun j γ2 hi => ?_
 refine dc 3 (fun K K' => aS ?_ ?_)<;>intro h<;>try simp at h
 ·obtain rfl : j = p.done.length := by omega
  refine dv 2 ?_
  refine u1u rfl rfl rfl (dv 1 ?_)
  exact ⟨i + 1, ⟨by omega, by omega⟩, [0, 0, 0, 0, 0, _, _, _], (y0y 3 rfl (Cov.cons' (t := 19) rfl (by rw [x9x (by omega) (by omega)]; rfl) Cov.nil)), x6x, (HE.row rfl (by simp only [a2h hp, List.append_assoc, a5n, List.take_length]) (HE.kill rfl (HE.kill rfl HE.nil))), x4x, rfl⟩
 obtain ⟨q, hq⟩ := gE p.done j
 have hsp := c3x hp hq
 refine dv 6 fun K K' => ?_
 refine x2x (id := 6) a4k c0g rfl (dv 5 ?_)
 refine w2w (zs := (n.kept ++ (n.lanes.take i).flatMap a5n ++ (p.done.take j).flatMap Pa.sends ++ q.sends).map y8y) rfl rfl u4u rfl z2z rfl rfl rfl (z6z (fun _ => rfl) _) (a5c _ _ _) (by have hb56 : T56.bytes = 56 := rfl; rw [List.length_map, hb56]; omega) ?_
 refine dv 2 ?_
 refine u1u rfl rfl rfl (dv 1 ?_)
 exact ⟨j + 1, ⟨by omega, by omega⟩, [0, 0, 0, 0, 0, _, _, _], (y0y 3 rfl (Cov.cons' (t := 25) rfl (by rw [x9x (by omega) (by omega)]; rfl) Cov.nil)), x6x, (HE.row rfl (by simp only [a2h hq, List.append_assoc]) (HE.kill rfl (HE.kill rfl HE.nil))), x4x, rfl⟩
theorem b7v (to kn : Int) (e : Ev) : Meth Tryz.prog 240 2 [0, 1] [.agg (y8y e), .ptr 0 0 0, .ptr 1 0 0] [(0, (0, .box 3 [pI to])), (1, (0, .box 3 [pI kn]))] (.pv (.bool (a3v to kn e))) [] := by
 refine mX Tryz.f240 [.pv (.bool (a3v to kn e))] 2 1 fun γ => ?_
 refine dv 1 ?_
 refine x8x (id := 2) rfl rfl rfl (dv 4 ?_)
 refine x0x rfl rfl rfl (b3i ..) (dc 3 (aS ?_ ?_))<;>intro h<;>try simp at h
 ·refine dv 6 ?_
  exact ⟨[γ 0, γ 1], rfl, congrArg (fun b : Bool => some [AV.pv (.bool b)]) ((decide_eq_false (by omega)).symm), x4x⟩
 refine dv 7 ?_
 exact ⟨[γ 0, γ 1], rfl, congrArg (fun b : Bool => some [AV.pv (.bool b)]) (decide_eq_decide.2 (by omega)), x4x⟩
theorem a8s (to kn : Int) (l : List Ev) (hl : l.length ≤ 10000000) : Meth Tryz.prog 230 2 [0, 1] [s1s true l, .fn (.func 240) [] [.ptr 0 0 0, .ptr 1 0 0]] [(0, (0, .box 3 [pI to])), (1, (0, .box 3 [pI kn]))] (s1s true (l.filter (a3v to kn))) [] := by
 refine mX Tryz.f230 [s1s true (l.filter (a3v to kn))] 2 4 fun γ => ?_
 refine dv 10 fun K K' => ?_
 refine a1m 5 5 56 7 rfl rfl ?_
 refine x5x (ι := Nat) (fun i γ1 => [(5, .ref 5 (γ1 5)), (10, pI (i : Int))]) (fun i γ1 => [(5, ((γ1 5), .row 56 7 (((l.take i).filter (a3v to kn)).map y8y))), (2, ((γ1 2), .dead)), (3, ((γ1 3), .dead)), (4, ((γ1 4), .dead))]) (fun i => i ≤ l.length) (fun i => l.length - i) (q3q [1, 8, 9] rfl) (a0j [0, 1] rfl) 0 (by omega) [0, 0, _, _, _, _] x6x (HE.row rfl (by rw [List.take_zero]; rfl) (HE.kill rfl (HE.kill rfl (HE.kill rfl HE.nil)))) rfl fun i γ1 hi => ?_
 refine dc 3 (fun K K' => aS ?_ ?_)<;>intro h<;>try simp at h
 ·obtain rfl : i = l.length := by omega
  rw [List.take_length]
  refine dv 1 ?_
  refine w5w 5 rfl rfl (fun _ => rfl) ?_
  refine dv 4 ?_
  exact ⟨[γ 0, γ 1], rfl, rfl, x4x⟩
 obtain ⟨p, hp⟩ := gE l i
 have hfl : ((l.take i).filter (a3v to kn)).length ≤ 10000000 := Nat.le_trans (List.length_filter_le _ _) (by rw [List.length_take]; omega)
 refine dv 6 fun K K' => ?_
 refine x2x (id := 2) z2z a6n rfl (dv 4 ?_)
 refine rlM [0, 1] [_, _] (b7v to kn p) rfl rfl rfl ?_
 refine dc 0 (aS ?_ ?_)<;>intro hc5<;>try simp at hc5
 ·have hw : ¬ a3v to kn p = true := by rw [hc5]; decide
  refine dv 2 ?_
  refine u1u rfl rfl rfl (dv 1 ?_)
  exact ⟨i + 1, ⟨by omega, by omega⟩, [0, 0, _, _, _, _], (y0y 5 rfl (Cov.cons' (t := 10) rfl (by rw [x9x (by omega) (by omega)]; rfl) Cov.nil)), x6x, (HE.row rfl (by rw [p7p hp]; rw [if_neg hw, List.append_nil]) (HE.kill rfl (HE.kill rfl (HE.kill rfl HE.nil)))), x4x, rfl⟩
 have hw : a3v to kn p = true := hc5
 refine dv 3 ?_
 refine y2y (id := 3) u4u rfl z2z rfl rfl rfl rfl rfl rfl ?_
 refine y7y (zs := ((l.take i).filter (a3v to kn) ++ [p]).map y8y) rfl rfl u4u rfl z2z rfl rfl rfl rfl (by rfl) (z7z _ _ _) (by (simp only [s3s, r0r, r5r, r8r, a0p, a2m, T56] at *; omega)) ?_
 refine dv 2 ?_
 refine u1u rfl rfl rfl (dv 1 ?_)
 exact ⟨i + 1, ⟨by omega, by omega⟩, [0, 0, _, _, _, _], (y0y 5 rfl (Cov.cons' (t := 10) rfl (by rw [x9x (by omega) (by omega)]; rfl) Cov.nil)), (y0y 1 rfl (y0y 8 rfl (y0y 9 rfl Cov.nil))), (HE.row rfl (by rw [p7p hp]; rw [if_pos hw]) (HE.kill rfl (HE.kill rfl (HE.kill rfl HE.nil)))), (w4w 0 rfl (w4w 1 rfl HE.nil)), rfl⟩
theorem c1k (c : Bool) (n : Nd) (t : Nat) (ht : t < 3) (hk3 : n.known.length = 3) (hs : (r7r n).length ≤ 5000000) (hlen : n.lanes.length ≤ 1048576) : Meth Tryz.prog 138 6 [0, 1, 2, 3, 4] [.ptr 4 0 0, .pv (.int .i64 (t : Int))] [(0, (0, .row 41 3 ((n.lanes).map fun l => q8q l.base))), (1, (0, .row 42 1 ((n.lanes).map fun l => [a7g c l.done]))), (2, (0, .map (b4a c n.views))), (3, (0, .row 3 1 (n.known.map a3i))), (4, (0, .box 164 [pI n.id, pI n.inc, pI n.g, pI n.led, .ref 0 0, s1s c n.kept, q7q c n.outs, .pv (.bool n.up), .ref 1 0, pI n.version, .mp 2 0, .ref 3 0, pI n.round, pI n.low])), (5, (0, .dead))] (.ref 5 0) [(5, (0, .row 56 7 ((a1d n (t : Int)).map y8y)))] := by
 refine s2s p1p (fn := Tryz.f138) (by kernel_rfl) (by kernel_rfl) rfl (O0 := [.ref 5 0]) 6 3 (a0g rfl) (by rfl) (by repeat (first | exact BndH.nil | refine BndH.dead ?_ | refine BndH.box rfl ?_ | refine BndH.row (v6v fun _ => rfl) ?_ | refine BndH.map (a0w _ _) ?_ )) (by repeat (first | exact BndH.nil | refine BndH.row (v6v fun _ => rfl) ?_ )) (by rfl) fun γ => ?_
 show Ex Tryz.prog _ _ [(0, .ptr 4 (γ 4) 0), (1, .pv (.int .i64 (t : Int)))] [(0, ((γ 0), .row 41 3 ((n.lanes).map fun l => q8q l.base))), (1, ((γ 1), .row 42 1 ((n.lanes).map fun l => [a7g c l.done]))), (2, ((γ 2), .map (b4a c n.views))), (3, ((γ 3), .row 3 1 (n.known.map a3i))), (4, ((γ 4), .box 164 [pI n.id, pI n.inc, pI n.g, pI n.led, .ref 0 (γ 0), s1s c n.kept, q7q c n.outs, .pv (.bool n.up), .ref 1 (γ 1), pI n.version, .mp 2 (γ 2), .ref 3 (γ 3), pI n.round, pI n.low])), (5, ((γ 5), .dead)), (8, (0, .dead)), (7, (0, .dead)), (6, (0, .dead))] _
 obtain ⟨kn, hkn⟩ := gE n.known t
 refine dv 1 ?_
 refine c8n (id := 6) rfl rfl rfl rfl (dv 7 ?_)
 refine y3y (j := t) rfl rfl a0l rfl s4s rfl rfl (z0z hkn) ?_
 refine dv 1 ?_
 refine x2x (id := 7) s4s f7z rfl (dv 3 ?_)
 refine rlM [0, 1, 2, 3, 4, 8] [_, _, _, _, _, _] (b9u c n hs hlen) rfl rfl rfl ?_
 refine b7g rfl rfl ?_
 refine rlM [6, 7] [_, _] (a8s (t : Int) kn _ (by omega)) rfl rfl rfl ?_
 refine rlM [5] [_] (a3l true _ (Nat.le_trans (List.length_filter_le _ _) (by omega))) rfl rfl rfl ?_
 refine dv 2 ?_
 exact ⟨[γ 0, γ 1, γ 2, γ 3, γ 4, _], rfl, rfl, HE.row rfl (by rw [c3z hkn]) (a0j [0, 1, 2, 3, 4] rfl)⟩
end
section
theorem b0o (c : Bool) (n : Nd) (t : Int) : Meth Tryz.prog 41 1 [] [.agg (u2u c n), .pv (.int .i64 t)] [(0, (0, .dead))] (.ref 0 0) [(0, (0, .row 56 7 ((c5a n t).map y8y)))] := by
 refine mX Tryz.f41 [.ref 0 0] 1 6 fun γ => ?_
 refine dv 1 ?_
 refine x8x (id := 1) rfl rfl rfl (dv 4 fun K K' => ?_)
 refine x0x rfl rfl rfl (a8r c n) (dc 2 (aS ?_ ?_))<;>intro hg2<;>try simp at hg2
 ·have fX : ¬ b6j n t := fun h => a1f (by simpa using hg2) h.1
  refine dv 12 ?_
  refine a1m 4 0 56 7 rfl rfl (dv 1 ?_)
  exact ⟨[_], rfl, rfl, HE.row rfl (by rw [b9k fX]; rfl) HE.nil⟩
 have fK : y4y n := a1c.1 (by simpa using hg2)
 refine dv 1 ?_
 refine x0x rfl rfl rfl (b9i t) (dc 3 (aS ?_ ?_))<;>intro hg3<;>try simp at hg3
 ·have fX : ¬ b6j n t := fun h => by have := h.2.1; simp_all; try omega
  refine dv 7 ?_
  refine a1m 4 0 56 7 rfl rfl (dv 1 ?_)
  exact ⟨[_], rfl, rfl, HE.row rfl (by rw [b9k fX]; rfl) HE.nil⟩
 have fI : 0 ≤ t ∧ t ≤ 2 := hg3
 refine dc 5 (aI ?_ ?_)<;>intro hc4<;>try simp at hc4
 ·have fX : ¬ b6j n t := fun h => h.2.2 (by simpa using hc4)
  refine dv 2 ?_
  refine a1m 4 0 56 7 rfl rfl (dv 1 ?_)
  exact ⟨[_], rfl, rfl, HE.row rfl (by rw [b9k fX]; rfl) HE.nil⟩
 have fF : b6j n t := ⟨fK, fI, by exact hc4⟩
 have fS := fK.1
 have fB := v9v fS
 have fV := fS.2.2.2.2.2.1
 obtain ⟨k, rfl⟩ := Int.eq_ofNat_of_zero_le fI.1
 refine dv 3 ?_
 refine rlM [2, 3, 4, 5, 6] [_, _, _, _, _] (b3l c n (by omega) (by omega) fS.2.2.2.2.2.2.1) rfl rfl rfl ?_
 refine dv 1 ?_
 refine rlM [2, 3, 4, 5, 6, 0] [_, _, _, _, _, _] (c1k c n k (by omega) fS.2.2.2.2.2.2.1 (by have := a8y fS; omega) (by omega)) rfl rfl rfl ?_
 refine dv 1 ?_
 skip
 refine dv 1 ?_
 exact ⟨[_], rfl, rfl, HE.row rfl (by rw [d0i fF]) HE.nil⟩
end
section
theorem f3r {a b : Ou} (h : a.time < b.time) : a4l b a = false := by
 cases q : a4l b a with
 | false => rfl
 | true =>
  rw [b2v, decide_eq_true_iff] at q
  unfold e2w at q
  omega
theorem d9s {A B : List Ou} (hA : WS a4l A) (h : ∀ a ∈ A, ∀ b ∈ B, a.time < b.time) : a0o (A ++ B) = A ++ a0o B := by
 refine (d4l ouSTO ?_ ?_).symm
 ·refine List.pairwise_append.2 ⟨hA, c3q ouSTO B, fun a ha b hb => ?_⟩
  exact f3r (h a ha b ((a5y B).mem_iff.1 hb))
 ·exact (a5y B).append_left A
variable {n : Nd}
theorem d5i (h : y4y n) (ho : c2n n) (g : Int) : ∃ S, (w0w n g).outs = n.outs ++ S := by
 refine ⟨a0o ((n.lanes.take n.lanes.length).flatMap (c0r g)), ?_⟩
 refine d9s ?_ fun a ha b hb => ?_
 ·have hs : SS a4l n.outs := ((d6x ouSTO).1 h.1.2.2.1).2.2
  exact hs.imp fun {a b} q => ouSTO.asymm q
 ·obtain ⟨i, hi⟩ := List.getElem?_of_mem ha
  have h1 := h.1.2.2.2.1 i a hi
  obtain ⟨l, hl, hb⟩ := List.mem_flatMap.1 hb
  have hl := List.mem_of_mem_take hl
  have hb2 : b ∈ (l.done.take (b8y g l.done)).flatMap Pa.outs := (a5y _).mem_iff.1 hb
  obtain ⟨p, hp, hb3⟩ := List.mem_flatMap.1 hb2
  have hp := List.mem_of_mem_take hp
  have e := ho l hl p hp b hb3
  obtain ⟨j, hj⟩ := List.getElem?_of_mem hl
  obtain ⟨k, hk⟩ := List.getElem?_of_mem hp
  have hc := b4q h hj
  have hd := e5r _ _ _ _ (Nat.lt_of_lt_of_le (List.getElem?_eq_some_iff.1 hk).1 hc.2.2.2) hk
  have := (c9q.1 (List.mem_of_getElem? hd)).2.2
  omega
theorem d3n (h : y4y n) (g : Int) {t : Int} (ht : 0 ≤ t ∧ t ≤ 2) (hne : ¬ t = n.id) : a1d (w0w n g) t = a1d n t := by
 obtain ⟨i, e1, e2, e3⟩ := e3k h.1
 obtain ⟨k, rfl⟩ := Int.eq_ofNat_of_zero_le ht.1
 have hki : ¬ i = k := by omega
 have hw : d4p (w0w n g) (k : Int) = d4p n (k : Int) := by
  funext e
  unfold d4p
  have : (w0w n g).known = n.known.set n.id.toNat g := rfl
  rw [this, e3, Int.toNat_natCast, List.getD_eq_getElem?_getD, List.getElem?_set_ne hki, ← List.getD_eq_getElem?_getD]
 unfold a1d
 rw [hw]
 refine SS.uniq c1v (a9k _) (a9k _) fun e => ?_
 unfold z5z
 rw [a7e, a7e, List.mem_filter, List.mem_filter]
 refine and_congr_left fun w => ?_
 have w' : a0h e.to = (k : Int) ∧ n.known.getD k 0 ≤ e.time := by
  unfold d4p at w
  simpa using w
 have hS : b2z (n.known.set n.id.toNat g) e = true := by
  unfold b2z
  rw [w'.1, e3, Int.toNat_natCast, List.getD_eq_getElem?_getD, List.getElem?_set_ne hki, ← List.getD_eq_getElem?_getD]
  exact decide_eq_true w'.2
 have hk : e ∈ (w0w n g).kept ↔ e ∈ a2j n g n.lanes.length := by
  show e ∈ z5z _ ↔ _
  unfold z5z
  rw [a7e, List.mem_filter]
  exact and_iff_left hS
 have hl : ∀ l : La, (e ∈ b4r g l ∨ e ∈ a5n (a4m g l)) ↔ e ∈ a5n l := fun l => by
  have q : e ∈ b4r g l ↔ e ∈ (l.done.take (b8y g l.done)).flatMap Pa.sends := by unfold b4r z5z; rw [a7e]
  have q2 : e ∈ a5n (a4m g l) ↔ e ∈ (l.done.drop (b8y g l.done)).flatMap Pa.sends := Iff.rfl
  rw [q, q2, ← List.mem_append, ← List.flatMap_append, List.take_append_drop]
  exact Iff.rfl
 have hs : e ∈ (w0w n g).lanes.flatMap a5n ↔ ∃ l ∈ n.lanes, e ∈ a5n (a4m g l) := by
  show e ∈ (n.lanes.map (a4m g)).flatMap a5n ↔ _
  rw [List.mem_flatMap]
  constructor
  ·rintro ⟨l, hl, he⟩
   obtain ⟨l0, h0, rfl⟩ := List.mem_map.1 hl
   exact ⟨l0, h0, he⟩
  ·rintro ⟨l, hl, he⟩
   exact ⟨_, List.mem_map.2 ⟨l, hl, rfl⟩, he⟩
 unfold r7r
 rw [List.mem_append, List.mem_append, hk, hs, a2j, List.take_length, List.mem_append, List.mem_flatMap, List.mem_flatMap]
 constructor
 ·rintro ((q | ⟨l, q1, q2⟩) | ⟨l, q1, q2⟩)
  ·exact .inl q
  ·exact .inr ⟨l, q1, (hl l).1 (.inl q2)⟩
  ·exact .inr ⟨l, q1, (hl l).1 (.inr q2)⟩
 ·rintro (q | ⟨l, q1, q2⟩)
  ·exact .inl (.inl q)
  ·rcases (hl l).2 q2 with q | q
   ·exact .inl (.inr ⟨l, q1, q⟩)
   ·exact .inr ⟨l, q1, q⟩
theorem c5x (l : La) (c : Nat) : ∀ k, a3u ⟨l.proc, a3u l c, l.done.drop c⟩ k = if c + k ≤ l.done.length then a3u l (c + k) else a3u l (max c l.done.length)
 | 0 => by
  show a3u l c = _
  split
  ·rfl
  ·rw [Nat.max_eq_left (by omega)]
 | k + 1 => by
  show (match (l.done.drop c)[k]? with | some p => p.after | none => a3u ⟨l.proc, a3u l c, l.done.drop c⟩ k) = _
  rw [List.getElem?_drop]
  cases hp : l.done[c + k]? with
  | some p =>
   have := (List.getElem?_eq_some_iff.1 hp).1
   rw [if_pos (by omega), show c + (k + 1) = (c + k) + 1 from rfl, b2w hp]
  | none =>
   have := List.getElem?_eq_none_iff.1 hp
   show a3u ⟨l.proc, a3u l c, l.done.drop c⟩ k = _
   rw [c5x l c k, if_neg (show ¬ c + (k + 1) ≤ l.done.length by omega)]
   by_cases q : c + k ≤ l.done.length
   ·rw [if_pos q, show max c l.done.length = c + k by omega]
   ·rw [if_neg q]
variable {g : Int}
theorem e5y {l : La} (h : a6c l = true) (h2 : a6c (a4m g l) = true) : d5e (a4m g l) = d5e l := by
 have hc := b7k g l.done
 unfold d5e
 rw [if_pos h, if_pos h2]
 show a3u ⟨l.proc, a3u l (b8y g l.done), l.done.drop (b8y g l.done)⟩ (l.done.drop (b8y g l.done)).length = _
 rw [c5x, List.length_drop, if_pos (by omega)]
 congr 1; omega
def f9m (x n : Nd) (g : Int) : Prop := y4y x ∧ x.g = g ∧ n.g < g ∧ x.outs.take n.outs.length = n.outs ∧ n.outs.length ≤ x.outs.length ∧ x.inc = n.inc ∧ x.version = n.version ∧ x.id = n.id ∧ (∀ (i : Nat) l, n.lanes[i]? = some l → x.lanes[i]? = some (a4m g l) ∧ a6c l = true ∧ a6c (a4m g l) = true) ∧ ∀ t, ¬ t = n.id → c5a x t = c5a n t
variable {r : Int}
theorem d9t (h : y4y n) (ho : c2n n) (k : (z1z n r g).2 = true) : f9m (z1z n r g).1 n g := by
 by_cases m : a4h n r g
 ·rw [b9c h m] at k ⊢
  by_cases ok : y4y (w0w n g)
  ·rw [b1r ok] at k ⊢
   obtain ⟨S, hS⟩ := d5i h ho g
   refine ⟨ok, rfl, by have := m.2.2.2.1; omega, ?_, ?_, rfl, rfl, rfl, fun i l hl => ?_, fun t ht => ?_⟩
   ·show (w0w n g).outs.take n.outs.length = n.outs
    rw [hS, List.take_left']; rfl
   ·show n.outs.length ≤ (w0w n g).outs.length
    rw [hS, List.length_append]; omega
   ·have e : (w0w n g).lanes[i]? = some (a4m g l) := by
     show (n.lanes.map (a4m g))[i]? = _
     rw [List.getElem?_map, hl]; rfl
    exact ⟨e, (h.1.2.2.2.2.2.2.2.1 i l hl).2, (ok.1.2.2.2.2.2.2.2.1 i _ e).2⟩
   ·by_cases p : b6j n t
    ·rw [d0i p, d0i (show b6j (w0w n g) t from ⟨ok, p.2.1, p.2.2⟩)]
     exact d3n h g p.2.1 ht
    ·rw [b9k p, b9k (show ¬ b6j (w0w n g) t from fun q => p ⟨h, q.2.1, q.2.2⟩)]
  ·rw [b1s ok] at k; cases k
 ·rw [a1v h m] at k; cases k
theorem d9u (h : y4y n) (k : (z1z n r g).2 = false) : (z1z n r g).1 = n := by
 by_cases m : a4h n r g
 ·rw [b9c h m] at k ⊢
  by_cases ok : y4y (w0w n g)
  ·rw [b1r ok] at k; cases k
  ·rw [b1s ok]
 ·rw [a1v h m]
end
section
theorem b7w (bs : List Nat) (hbs : ∀ b ∈ bs, b < 256)  : a0t Tryz.prog 11 [v4v true bs] (.pv (.bool (true))) := by
 refine pX Tryz.f11 [.pv (.bool (true))] 10 ?_
 refine dc 7 (fun K K' => aI ?_ ?_)<;>intro o<;>try simp at o
 ·refine dv 3 ?_
  refine x3x rfl ?_ rfl
  rfl
 refine dv 1 ?_
 refine a0d fun B X0 w0 => ?_
 refine txR 1 rfl rfl (dv 1 ?_)
 refine txM [] [] (b5k bs hbs) rfl rfl rfl rfl fun j hj => ?_
 obtain ⟨n, r, g⟩ := j
 dsimp only at hj ⊢
 refine txR 8 rfl rfl (dv 4 ?_)
 refine x2x (id := 0) u6u p9p rfl (dv 3 ?_)
 refine u0u rfl (dv 4 ?_)
 refine x0x rfl rfl rfl (a6y true n r g) (dv 3 ?_)
 refine x2x (id := 1) u6u p9p rfl (dv 4 ?_)
 refine x0x rfl rfl rfl (p2p true n) (dv 5 ?_)
 refine rlM [3, 4, 5, 6, 7] [_, _, _, _, _] (c1j true n r g) rfl rfl rfl ?_
 refine dv 3 ?_
 refine x2x (id := 2) u6u p9p rfl (dv 3 fun K K' => ?_)
 refine v5v (b := b9w true (z1z n r g).1.lanes) 2 4 rfl rfl rfl (.ref rfl (Le.ow_map2 _ (fun _ => rfl) e3u) .nil) rfl rfl rfl rfl ?_
 refine v5v (b := s1s true (z1z n r g).1.kept) 2 5 rfl rfl rfl (.ref rfl (Le.ow_map _ (fun _ => rfl) (fun _ => rfl)) .nil) rfl rfl rfl rfl ?_
 refine v5v (b := q7q true (z1z n r g).1.outs) 2 6 rfl rfl rfl (.ref rfl (Le.ow_map _ (fun _ => rfl) (fun _ => rfl)) .nil) rfl rfl rfl rfl ?_
 refine v5v (b := c1r true (z1z n r g).1.views) 2 9 rfl rfl rfl (.ref rfl (Le.ow_map2 _ (fun _ => rfl) e3v) .nil) rfl rfl rfl rfl ?_
 refine v5v (b := a4n true (z1z n r g).1.known) 2 10 rfl rfl rfl (.ref rfl (Le.ow_map _ (fun _ => rfl) (fun _ => rfl)) .nil) rfl rfl rfl rfl ?_
 obtain ⟨X, eX⟩ : ∃ X, (z1z n r g).1 = X := ⟨_, rfl⟩
 obtain ⟨D, eD⟩ : ∃ D, (z1z n r g).2 = D := ⟨_, rfl⟩
 rw [eX, eD]
 refine dv 3 ?_
 refine a9b rfl rfl (by intro p q h h'; cases h; cases h'; rfl) (.inr rfl) (d6e Tryz.underlying4 _ _ _ _) ?_
 refine dv 1 ?_
 refine d3o rfl rfl (fun hg4 => ?_) (fun hg4 => ?_)
 rotate_left
 ·(simp at hg4; done)
 try simp at hg4
 refine dv 2 ?_
 refine x0x rfl rfl rfl (b9n true true X X) (dv 2 ?_)
 refine a1e rfl (fun hc5 => ?_) (fun hc5 => ?_)
 ·(simp at hc5; done)
 try simp at hc5
 refine dc 5 (fun K K' => aI ?_ ?_)<;>intro hc7<;>try simp at hc7
 ·have fX : ¬ y4y n := a1f (by simpa using hc7)
  have eX0 := eX.symm.trans (congrArg Prod.fst (c2k (r := r) (g := g) fX))
  have eD0 := eD.symm.trans (congrArg Prod.snd (c2k (r := r) (g := g) fX))
  refine dv 4 ?_
  refine d3o rfl rfl (fun hg8 => ?_) (fun hg8 => ?_)
  rotate_left
  ·(simp [eD0] at hg8; done)
  try simp at hg8
  refine dv 7 ?_
  refine x3x rfl ?_ rfl
  (rw [eX0]; rfl)
 have fK : y4y n := a1c.1 (by simpa using hc7)
 refine dc 5 (fun K K' => aI ?_ ?_)<;>intro hc10<;>try simp at hc10
 ·have hXn : X = n := eX.symm.trans (d9u fK (eD.trans (by simpa using hc10)))
  refine dv 3 ?_
  refine x0x rfl rfl rfl (b9n true true X n) (dv 2 ?_)
  refine x3x rfl ?_ rfl
  exact congrArg (fun b : Bool => [AV.pv (.bool b)]) (decide_eq_true hXn)
 have p := d9t fK hj (eD.trans (by simpa using hc10))
 rw [eX] at p
 obtain ⟨p1, p2, p3, p4, p5, p6, p7, p8, p9, p10⟩ := p
 have fS := fK.1
 have fB := v9v fS
 refine dv 5 fun K K' => ?_
 refine x5x (ι := Nat) (fun i γ1 => [(11, pI (i : Int))]) (fun i γ1 => []) (fun i => i ≤ n.lanes.length) (fun i => n.lanes.length - i) (q3q [3, 5, 9] rfl) (a0j [0, 1, 2, 3, 4, 5, 6, 7, 8, 9] rfl) 0 (by omega) [] x6x x4x rfl fun i γ1 hi => ?_
 refine dc 7 (fun K K' => aI ?_ ?_)<;>intro o<;>try simp at o
 ·obtain ⟨l, hl⟩ := gE n.lanes i
  obtain ⟨hx, hlo, hlo2⟩ := p9 i l hl
  have hc := b7k g l.done
  have hD := (a1i hlo).1
  have hnow := e5y hlo hlo2
  have hdl : (a4m g l).done.length = l.done.length - b8y g l.done := List.length_drop ..
  have hdd : (a4m g l).done = l.done.drop (b8y g l.done) := rfl
  refine dv 18 fun K K' => ?_
  refine r1r (.int .i64 ((b8y g l.done : Nat) : Int)) rfl rfl rfl (a6o rfl (by omega) (by omega) (by omega)) ?_
  refine q9q rfl ⟨by kernel_rfl, exD (q0q rfl (b4i rfl rfl rfl (q0q rfl (d3o rfl rfl (fun hg15 => ?_) (fun hg15 => ?_)))))⟩
  rotate_left
  ·(simp at hg15; omega)
  try simp at hg15
  refine dv 13 ?_
  refine b0i (f := a2r true) (l := l.done) rfl a6m rfl a4k rfl rfl rfl (by omega) (by rw [List.length_map]; omega) (by rw [List.length_map]; omega) ?_
  rw [c0t]
  refine dv 0 ?_
  refine x0x rfl rfl rfl (b6l true true (a4m g l).done (l.done.drop (b8y g l.done))) ?_
  refine dv 3 ?_
  refine d3o rfl rfl (fun hg16 => ?_) (fun hg16 => ?_)
  rotate_left
  ·(simp [hdd] at hg16; done)
  try simp at hg16
  refine dv 5 ?_
  refine x0x rfl rfl rfl (b6n true (a4m g l) hlo2) ?_
  refine dv 5 ?_
  refine x0x rfl rfl rfl (b6n true l hlo) (dv 0 ?_)
  refine a9b rfl rfl (by intro a c h; cases h) (.inr rfl) (f6p _ _ _ _) ?_
  refine dv 1 ?_
  refine a1e rfl (fun hc17 => ?_) (fun hc17 => ?_)
  ·(simp [hnow, a2c] at hc17; done)
  try simp at hc17
  refine dv 3 ?_
  refine x7x (b := 1) rfl rfl (by omega) (dv 1 ?_)
  exact ⟨i + 1, ⟨by omega, by omega⟩, [], x6x, x6x, x4x, x4x, rfl⟩
 refine dv 5 fun K K' => ?_
 refine x5x (ι := Nat) (fun t γ2 => [(13, pI (t : Int))]) (fun t γ2 => [(8, ((γ2 8), .dead)), (9, ((γ2 9), .dead))]) (fun t => t ≤ 3) (fun t => 3 - t) (q3q [3, 5, 9] rfl) (a0j [0, 1, 2, 3, 4, 5, 6, 7] rfl) 0 (by omega) [0, 0, 0, 0, 0, 0, 0, 0, _, _] x6x x4x rfl fun t γ2 hi => ?_
 refine dc 4 (fun K K' => aI ?_ ?_)<;>intro o<;>try simp at o
 ·refine dc 9 (fun K K' => aS ?_ ?_)<;>intro hg24<;>try simp at hg24
  ·refine dv 8 ?_
   refine a1e rfl (fun hc26 => ?_) (fun hc26 => ?_)
   ·(simp at hc26; done)
   try simp at hc26
   refine dv 3 ?_
   refine x7x (b := 1) rfl rfl (by omega) (dv 1 ?_)
   exact ⟨t + 1, ⟨by omega, by omega⟩, [0, 0, 0, 0, 0, 0, 0, 0, _, _], x6x, x6x, x4x, x4x, rfl⟩
  have ht : ¬ (t : Int) = n.id := hg24
  have hT := p10 (t : Int) ht
  refine dv 2 ?_
  refine rlM [8] [_] (b0o true X (t : Int)) rfl rfl rfl ?_
  refine dv 2 ?_
  refine rlM [9] [_] (b0o true n (t : Int)) rfl rfl rfl ?_
  refine dv 0 ?_
  refine b2m rfl rfl rfl (e4i rfl (e4i rfl .nil)) (a6i false false (c5a X (t : Int)) (c5a n (t : Int))) (.pv _) ?_
  refine dv 2 ?_
  refine a1e rfl (fun hc25 => ?_) (fun hc25 => ?_)
  ·(simp [hT] at hc25; done)
  try simp at hc25
  refine dv 3 ?_
  refine x7x (b := 1) rfl rfl (by omega) (dv 1 ?_)
  exact ⟨t + 1, ⟨by omega, by omega⟩, [0, 0, 0, 0, 0, 0, 0, 0, _, _], x6x, x6x, x4x, x4x, rfl⟩
 refine dv 3 ?_
 refine x0x rfl rfl rfl (a8r true X) (dv 1 ?_)
 refine d3o rfl rfl (fun hg27 => ?_) (fun hg27 => ?_)
 rotate_left
 ·(simp [e2x p1] at hg27; done)
 try simp at hg27
 refine dv 6 ?_
 refine d3o rfl rfl (fun hg28 => ?_) (fun hg28 => ?_)
 rotate_left
 ·(simp [p2] at hg28; done)
 try simp at hg28
 refine dv 6 ?_
 refine d3o rfl rfl (fun hg29 => ?_) (fun hg29 => ?_)
 rotate_left
 ·(simp [p3] at hg29; done)
 try simp at hg29
 refine dv 9 ?_
 refine d3o rfl rfl (fun hg30 => ?_) (fun hg30 => ?_)
 rotate_left
 ·(simp [p5] at hg30; done)
 try simp at hg30
 refine dv 5 ?_
 refine b0i (f := w3w) (l := X.outs) rfl p5p rfl z9z rfl rfl rfl (by omega) (by omega) (by omega) ?_
 rw [show (X.outs.take ((n.outs.length : Nat) : Int).toNat).drop (0 : Int).toNat = n.outs from by simpa using p4]
 refine dv 2 ?_
 refine x0x rfl rfl rfl (b3k true true n.outs n.outs) (dv 2 ?_)
 refine d3o rfl rfl (fun hg31 => ?_) (fun hg31 => ?_)
 rotate_left
 ·(simp at hg31; done)
 try simp at hg31
 refine dv 7 ?_
 refine d3o rfl rfl (fun hg32 => ?_) (fun hg32 => ?_)
 rotate_left
 ·(simp [p6] at hg32; done)
 try simp at hg32
 refine dv 8 ?_
 refine x3x rfl ?_ rfl
 exact congrArg (fun b : Bool => [AV.pv (.bool b)]) (decide_eq_true p7)
end
section
def X0 (w : World) : Cx := ⟨fun b => b < w.heap.size, fun b => b < w.heap.size, fun _ _ => none, fun _ _ => none⟩
theorem e8z (w : World) : SRh (X0 w) ⟨w, fun _ => False, fun b => b < w.heap.size, fun b => b < w.heap.size⟩ (fun _ => none) w := by
 refine ⟨fun _ => [], ?_, ?_, ?_, ?_, ?_, ?_, ?_, ?_, ?_, rfl, rfl, rfl, Nat.le_refl _, fun _ _ _ => rfl⟩
 ·intro id g e h; cases h
 ·intro id ge b h; cases h
 ·intro id id' ge ge' b h; cases h
 ·intro b hb; exact ⟨hb, fun id ge h => by cases h⟩
 ·intro b hb; exact hb
 ·intro b hb; exact .inl hb
 ·intro b hb; exact .inl hb
 ·intro id ge b h; cases h
 ·intro id g h; exact ⟨rfl, rfl⟩
theorem d5j (hC : a0t P f avs (.pv u)) (w : World) (vs : List Value) (hl : vs.length = avs.length) (hr : ∀ (i : Nat) (a : AV) (v : Value), avs[i]? = some a → vs[i]? = some v → VR (X0 w) w a v) :
  Calls P f vs.toArray w fun e w' => e = .returned u ∧ Below w.heap.size w w' :=
 (hC.2 (X0 w) _ (fun _ => none) w vs (e8z w) hl hr (fun id ge h => by cases h)).mono fun e w' ⟨v, he, X', hX, hS, hk, hv⟩ => by
  rw [hv.pv_inv] at he
  obtain ⟨F, hS⟩ := hS
  exact ⟨he, hS.os, hS.tape, hS.output, hS.size, fun k hk => hS.keep k hk (fun h => h)⟩
def f3s (k : IntKind) (w : World) (a : Option Addr) (len cap : Nat) (zs : List Int) : Prop :=
 (a = none ∧ len = 0 ∧ cap = 0 ∧ zs = []) ∨
 ∃ x, a = some x ∧ len ≤ cap ∧ cap ≤ maxLen ∧ zs.length = cap ∧ (∀ i, i < zs.length → w.cell? (x.add i) = some (.int k (zs.getD i 0))) ∧ ∀ n ∈ zs, (Lit.int k n).wf = true
theorem e5z (h : f3s .u8 w a len cap zs) : ∃ bs : List Nat, (∀ b ∈ bs, b < 256) ∧ VR (X0 w) w (v4v true bs) (.slice a len cap) := by
 rcases h with ⟨rfl, rfl, rfl, rfl⟩ | ⟨x, rfl, hl, hm, hz, hc, hw⟩
 ·exact ⟨[], (fun b hb => by cases hb), .cl (.row none 0 (fun _ _ => undef) (Nat.le_refl _) (Nat.zero_le _) (fun j x hx => by simp at hx) (fun j i x y hx => by simp at hx) (fun h => by simp at h) (fun ad j i x y hA => by cases hA) (fun j i x y hx => by simp at hx))⟩
 ·have hb : ∀ n ∈ zs, 0 ≤ n ∧ n < 256 := fun n hn => by
   have := hw n hn
   simp only [Lit.wf, Bool.and_eq_true, decide_eq_true_eq, IntKind.min, IntKind.max] at this
   simp [IntKind.signed, IntKind.bits] at this
   omega
  refine ⟨(zs.take len).map Int.toNat, fun b hb' => ?_, ?_⟩
  ·obtain ⟨n, hn, rfl⟩ := List.mem_map.1 hb'
   have := hb n (List.mem_of_mem_take hn)
   omega
  ·have hlen : ((zs.take len).map Int.toNat).length = len := by rw [List.length_map, List.length_take]; omega
   have hg : ∀ (j : Nat) (y : List AV), (((zs.take len).map Int.toNat).map f6o)[j]? = some y → j < len ∧ ∃ n, zs[j]? = some n ∧ y = [.pv (.int .u8 n)] := fun j y hy => by
    rw [List.getElem?_map, List.getElem?_map, List.getElem?_take] at hy
    split at hy
    ·rename_i hj
     cases hn : zs[j]? with
     | none => rw [hn] at hy; cases hy
     | some n =>
      rw [hn] at hy
      refine ⟨hj, n, rfl, ?_⟩
      have h0 := hb n (List.mem_of_getElem? hn)
      simp only [Option.map_some, Option.some.injEq] at hy
      rw [← hy, f6o, Int.toNat_of_nonneg h0.1]
    ·cases hy
   have key := CR.row (ok1 := (X0 w).ok1) (ok2 := (X0 w).ok2) (w := w) (m := true) (ty := 5) (sz := 1) (xs := ((zs.take len).map Int.toNat).map f6o) (some x) cap (fun j _ => .int .u8 (zs.getD j 0))
    (by rw [List.length_map, hlen]; exact hl) hm (fun j y hy => by obtain ⟨_, n, _, rfl⟩ := hg j y hy; rfl)
    (fun j i y z hy hz' => by
     obtain ⟨_, n, _, rfl⟩ := hg j y hy
     cases i with
     | zero => simp at hz'; subst hz'; rfl
     | succ i => simp at hz')
    (fun hp => ⟨x, rfl, by
     rw [List.length_map, hlen] at hp
     have := hc 0 (by omega)
     have h2 := World.block_lt_of_cell? w _ this
     show x.block < w.heap.size
     simpa [Addr.add] using h2⟩)
    (fun ad j i y z hA hy hz' => by
     cases hA
     obtain ⟨hj, n, hn, rfl⟩ := hg j y hy
     cases i with
     | zero =>
      have := hc j (by omega)
      simpa using this
     | succ i => simp at hz')
    (fun j i y z hy hz' => by
     obtain ⟨hj, n, hn, rfl⟩ := hg j y hy
     cases i with
     | zero =>
      simp at hz'; subst hz'
      rw [List.getD_eq_getElem?_getD, hn]
      exact .pv _
     | succ i => simp at hz')
   rw [List.length_map, hlen] at key
   exact .cl key
end
end Go.Proofs.YtlgknoapdbpojaaGreat.Am
