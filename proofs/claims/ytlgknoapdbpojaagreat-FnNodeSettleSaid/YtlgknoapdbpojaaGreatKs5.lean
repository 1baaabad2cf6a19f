/- Part 5 of the texts that the proof of LawFnNodeSettle leans on, merged by program. -/
import Derived.Test.YtlgknoapdbpojaaGreatKs4
set_option linter.unusedVariables false
set_option linter.unusedSimpArgs false
set_option maxHeartbeats 4000000
set_option autoImplicit true
set_option relaxedAutoImplicit true
namespace Go.Proofs.YtlgknoapdbpojaaGreat.Am
open Go Go.RowKit
section
theorem c1z (r : List Wo) (hr : r.length ≤ 40) : Meth Tryz.prog 312 1 [0] [.ref 0 0, w7w true ([] : List Wo)] [(0, (0, .row 79 11 ((r).map (v8v true))))] (.ref 0 0) [(0, (0, .row 79 11 ((r).map (v8v true))))] := by
 refine mX Tryz.f312 [.ref 0 0] 1 2 fun γ => ?_
 refine dv 6 fun K K' => ?_
 refine x5x (ι := Nat) (fun i γ1 => [(0, .ref 0 (γ 0)), (5, pI (i : Int))]) (fun i γ1 => [(0, ((γ 0), .row 79 11 ((r).map (v8v true)))), (1, ((γ1 1), .dead)), (2, ((γ1 2), .dead))]) (fun i => i = 0) (fun i => i) (y0y 1 rfl Cov.nil) HE.nil 0 rfl [0, _, _] x6x x4x rfl fun i γ1 hi => ?_
 subst hi
 refine dv 7 fun K K' => ?_
 refine d3o rfl rfl (fun hg3 => ?_) (fun hg3 => ?_)
 ·(simp at hg3; done)
 try simp at hg3
 refine dv 3 ?_
 refine a1e rfl (fun hc5 => ?_) (fun hc5 => ?_)
 ·(simp at hc5; done)
 try simp at hc5
 refine dv 5 ?_
 exact ⟨[γ 0], rfl, rfl, x4x⟩
theorem c2a (r m : List Wo) (hr : r.length ≤ 40) : Meth Tryz.prog 312 1 [] [.ref 0 0, w7w true m] [(0, (0, .row 79 11 ((r).map (v8v true))))] (.ref 0 0) [(0, (0, .row 79 11 ((b3f r m).map (v8v true))))] := by
 refine mX Tryz.f312 [.ref 0 0] 1 2 fun γ => ?_
 refine dv 6 fun K K' => ?_
 refine x5x (ι := Nat) (fun i γ1 => [(0, .ref 0 (γ1 0)), (5, pI (i : Int))]) (fun i γ1 => [(0, ((γ1 0), .row 79 11 ((r ++ m.take i).map (v8v true)))), (1, ((γ1 1), .dead)), (2, ((γ1 2), .dead))]) (fun i => i ≤ m.length ∧ r.length + i ≤ 40) (fun i => m.length - i) (y0y 1 rfl Cov.nil) HE.nil 0 ⟨Nat.zero_le _, hr⟩ [_, _, _] x6x (HE.row rfl (by simp) (HE.kill rfl (HE.kill rfl HE.nil))) rfl fun i γ1 hi => ?_
 obtain ⟨h1, h2⟩ := hi
 have hl : (r ++ m.take i).length = r.length + i := by simp; omega
 refine dc 7 (fun K K' => aS ?_ ?_)<;>intro h<;>try simp at h
 ·refine dv 9 ?_
  exact ⟨[_], rfl, rfl, HE.row rfl (by rw [d7z hr h1 h2 (by omega)]) HE.nil⟩
 refine dv 1 ?_
 refine a3y (n := r.length + i) rfl r6r rfl rfl (by rw [List.length_map]; exact hl) ?_
 refine dc 2 (aS ?_ ?_)<;>intro h<;>try simp at h
 ·refine dv 5 ?_
  exact ⟨[_], rfl, rfl, HE.row rfl (by rw [d7z hr h1 h2 (by omega)]) HE.nil⟩
 obtain ⟨w, hw⟩ := gE m i
 refine dv 9 fun K K' => ?_
 refine y2y (id := 1) r6r rfl p0p rfl rfl rfl rfl rfl rfl ?_
 refine y7y (zs := (r ++ m.take i ++ [w]).map (v8v true)) rfl rfl r6r rfl p0p rfl rfl rfl rfl (by rfl) (z7z (v8v true) _ w) (by (simp only [s3s, r0r, r5r, r8r, a0p, a2m, T79]; omega)) ?_
 refine dv 3 ?_
 refine x7x (b := 1) rfl rfl (by omega) (dv 1 ?_)
 exact ⟨i + 1, ⟨⟨by omega, by omega⟩, by omega⟩, [_, _, _], x6x, x6x, (HE.row rfl (by rw [← e5v hw (by rw [hl]; omega)]) (HE.kill rfl (HE.kill rfl HE.nil))), x4x, rfl⟩
theorem a1g (r m : List Wo) (hr : r.length ≤ 40) : Meth Tryz.prog 312 1 (kpS m) [.ref 0 0, w7w true m] [(0, (0, .row 79 11 ((r).map (v8v true))))] (.ref 0 0) [(0, (0, .row 79 11 ((b3f r m).map (v8v true))))] := by
 cases m with
 | nil =>
  have e : b3f r [] = r := by simp [b3f]
  rw [e]; exact c1z r hr
 | cons x l => exact c2a r (x :: l) hr
end
section
theorem c5n (c : Bool) (n : Nd) : a0t Tryz.prog 54 [.agg (u2u c n)] (.agg (u2u true (a8l n))) := by
 refine pX Tryz.f54 [.agg (u2u true (a8l n))] 6 ?_
 refine dv 1 ?_
 refine x8x (id := 0) rfl rfl rfl (x2x (id := 1) u6u p9p rfl (dv 3 fun K K' => ?_))
 refine x0x rfl rfl rfl (p2p ..) (dc 1 (aI ?_ ?_))<;>intro hc2<;>try simp at hc2
 ·have fX : ¬ y4y n := a1f (by simpa using hc2)
  refine dv 1 ?_
  refine rlB u6u p9p ?_
  refine dv 2 ?_
  (rw [d8z fX]; exact ⟨_, _, rfl, e4d⟩)
 have fK : y4y n := a1c.1 (by simpa using hc2)
 have fS := fK.1
 have fB := v9v fS
 have fb := c0q fS
 refine dv 3 ?_
 refine rlM [3, 4, 5] [_, _, _] (a6w c n fb.1 fb.2.1 fb.2.2.1 fb.2.2.2.1) rfl rfl rfl ?_
 refine x2x (id := 2) u6u p9p rfl (dv 8 ?_)
 (rw [c0o fK]; exact ⟨_, _, rfl, b7m (n := ({ a2g n with up := false } : Nd)) rfl rfl rfl⟩)
theorem c5o (c : Bool) (n : Nd) : a0t Tryz.prog 58 [.agg (u2u c n)] (.agg (u2u true (a4y n))) := by
 refine pX Tryz.f58 [.agg (u2u true (a4y n))] 6 ?_
 refine dv 1 ?_
 refine x8x (id := 0) rfl rfl rfl (x2x (id := 1) u6u p9p rfl (dv 3 fun K K' => ?_))
 refine x0x rfl rfl rfl (p2p ..) (dc 1 (aI ?_ ?_))<;>intro hc2<;>try simp at hc2
 ·have fX : ¬ y4y n := a1f (by simpa using hc2)
  refine dv 1 ?_
  refine rlB u6u p9p ?_
  refine dv 2 ?_
  (rw [d9a fX]; exact ⟨_, _, rfl, e4d⟩)
 have fK : y4y n := a1c.1 (by simpa using hc2)
 have fS := fK.1
 have fB := v9v fS
 have fb := c0q fS
 refine dc 6 (fun K K' => aS ?_ ?_)<;>intro j<;>try simp at j
 ·refine dv 5 ?_
  have fU : n.up = true ∨ 9999 ≤ n.inc := by (simp_all; done)
  refine dv 2 ?_
  refine rlM [3, 4, 5] [_, _, _] (y6y c n fb) rfl rfl rfl ?_
  refine dv 2 ?_
  (rw [b5q fK fU]; exact ⟨_, _, rfl, b7m rfl rfl rfl⟩)
 refine dv 2 ?_
 refine x0x rfl rfl rfl (u7u ..) (dc 2 (aI ?_ ?_))<;>intro hc5<;>try simp at hc5
 ·have fU : n.up = true ∨ 9999 ≤ n.inc := .inr hc5
  refine dv 2 ?_
  refine rlM [3, 4, 5] [_, _, _] (y6y c n fb) rfl rfl rfl ?_
  refine dv 2 ?_
  (rw [b5q fK fU]; exact ⟨_, _, rfl, b7m rfl rfl rfl⟩)
 have fU : ¬ (n.up = true ∨ 9999 ≤ n.inc) := by rintro (h | h) <;> first | omega | (simp_all; done)
 refine dv 3 ?_
 refine rlM [3, 4, 5] [_, _, _] (a6w c n fb.1 fb.2.1 fb.2.2.1 fb.2.2.2.1) rfl rfl rfl ?_
 refine x2x (id := 2) u6u p9p rfl (dv 7 ?_)
 refine r1r (.int .i64 (n.inc + 1)) rfl rfl rfl (a6o rfl rfl (by have := fS.1.2.1; omega) (by have := fS.1.2.1; omega)) ?_
 refine dv 9 ?_
 (rw [c0p fK fU]; exact ⟨_, _, rfl, b7m (n := ({ a2g n with up := true, inc := n.inc + 1, version := 1 } : Nd)) rfl rfl rfl⟩)
end
section
theorem c5p (c : Bool) (n : Nd) : a0t Tryz.prog 49 [.agg (u2u c n)] (w7w true (c4e n)) := by
 refine pX Tryz.f49 [w7w true (c4e n)] 8 ?_
 refine dv 1 ?_
 refine x8x (id := 0) rfl rfl rfl (dv 2 ?_)
 refine y1y (id := 1) r6r rfl p0p rfl (dv 4 fun K K' => ?_)
 refine x0x rfl rfl rfl (p2p ..) (dc 2 (aS ?_ ?_))<;>intro hg2<;>try simp at hg2
 ·have fX : ¬ (y4y n ∧ n.up = true) := fun h => a1f (by simpa using hg2) h.1
  refine dv 8 ?_
  (rw [e3a fX]; exact a5d (l := ([] : List Wo)) rfl rfl (fun _ => rfl) rfl)
 have fK : y4y n := a1c.1 (by simpa using hg2)
 have fS := fK.1
 have fB := v9v fS
 have fV := fS.2.2.2.2.2.1
 refine dc 4 (aI ?_ ?_)<;>intro hc3<;>try simp at hc3
 ·have fX : ¬ (y4y n ∧ n.up = true) := by (intro h; simp_all; done)
  refine dv 4 ?_
  (rw [e3a fX]; exact a5d (l := ([] : List Wo)) rfl rfl (fun _ => rfl) rfl)
 have fU : n.up = true := hc3
 refine dv 5 fun K K' => ?_
 refine x5x (ι := Nat) (fun i γ1 => [(3, .ref 1 (γ1 1)), (4, pI (i : Int))]) (fun i γ1 => [(1, ((γ1 1), .row 79 11 ((a7u n i).map (v8v true)))), (2, ((γ1 2), .dead)), (3, ((γ1 3), .dead))]) (fun i => i ≤ 3) (fun i => 3 - i) (y0y 1 rfl Cov.nil) (a0j [0, 4, 5, 6, 7] rfl) 0 (by omega) [0, _, _, _] x6x (HE.row rfl (by rfl) (HE.kill rfl (HE.kill rfl HE.nil))) rfl fun i γ1 hi => ?_
 refine dc 4 (fun K K' => aI ?_ ?_)<;>intro j<;>try simp at j
 ·refine dc 8 (fun K K' => aS ?_ ?_)<;>intro hc8<;>try simp at hc8
  ·have hto : (i : Int) = n.id := hc8
   refine dv 1 ?_
   skip
   refine dv 2 ?_
   refine u1u rfl rfl rfl (dv 1 ?_)
   exact ⟨i + 1, ⟨by omega, by omega⟩, [0, _, _, _], (y0y 3 rfl (Cov.cons' (t := 4) rfl (by rw [x9x (by omega) (by omega)]; rfl) Cov.nil)), x6x, (HE.row rfl (by rw [d6v hto]) (HE.kill rfl (HE.kill rfl HE.nil))), x4x, rfl⟩
  have hto : ¬ (i : Int) = n.id := hc8
  have htl := c4a fS (i : Int)
  have htn := c4d n i
  refine dv 13 ?_
  refine x0x rfl rfl rfl (a9p c n i (by omega) fS.2.2.2.2.2.2.1 (by have := a8y fS; omega) (by omega)) ?_
  refine rlB p0p b0r ?_
  refine y2y (id := 2) r6r rfl p0p rfl rfl rfl rfl rfl rfl ?_
  refine y7y (zs := (a7u n i).map (v8v true) ++ [[pI (b4n n (i : Int)).kind, pI (b4n n (i : Int)).from', pI (b4n n (i : Int)).to, pI (b4n n (i : Int)).inc, pI (b4n n (i : Int)).version, pI (b4n n (i : Int)).round, pI (b4n n (i : Int)).g, .pv (.slice none 0 0), .pv (.slice none 0 0), s1s true (a1d n (i : Int)), .pv (.slice none 0 0)]]) rfl rfl r6r rfl p0p rfl rfl rfl rfl rfl rfl (by (simp only [s3s, r0r, r5r, r8r, a0p, a2m, T79] at *; omega)) ?_
  refine dv 1 ?_
  refine e9o 1 rfl (LeLs.snoc (x' := v8v true (b4n n (i : Int))) (.same (.same (.same (.same (.same (.same (.same (.le rfl .nil rfl (.le rfl .nil rfl (.same (.le rfl .nil rfl .nil))))))))))) _) ?_
  refine dv 2 ?_
  refine u1u rfl rfl rfl (dv 1 ?_)
  exact ⟨i + 1, ⟨by omega, by omega⟩, [0, _, _, _], (y0y 3 rfl (Cov.cons' (t := 4) rfl (by rw [x9x (by omega) (by omega)]; rfl) Cov.nil)), x6x, (HE.row rfl (by (rw [d6u hto, List.map_append]; rfl)) (HE.kill rfl (HE.kill rfl HE.nil))), x4x, rfl⟩
 obtain rfl : i = 3 := by omega
 have htn := c4d n 3
 refine dc 6 (fun K K' => aS ?_ ?_)<;>intro hc10<;>try simp at hc10
 ·have h0 : n.id = 0 := hc10
  refine dv 1 ?_
  skip
  refine dv 4 ?_
  (rw [f1v ⟨fK, fU⟩ h0]; exact a5d rfl rfl (fun _ => rfl) rfl)
 have h0 : ¬ n.id = 0 := hc10
 refine dv 6 ?_
 refine y1y (id := 4) p5p rfl z9z rfl (dv 2 ?_)
 refine a1w p1p (zs := (n.outs).map w3w) rfl rfl p5p rfl z9z rfl rfl rfl (z6z (fun _ => rfl) _) rfl (by (simp only [s3s, r0r, r5r, r8r, a0p, a2m, T141] at *; omega)) (Le.ow_map _ (fun _ => rfl) (fun _ => rfl)) ?_
 refine rlB p0p b0r ?_
 refine y2y (id := 6) r6r rfl p0p rfl rfl rfl rfl rfl rfl ?_
 refine y7y (zs := (a7u n 3).map (v8v true) ++ [[pI (c4b n).kind, pI (c4b n).from', pI (c4b n).to, pI (c4b n).inc, pI (c4b n).version, pI (c4b n).round, pI (c4b n).g, .pv (.slice none 0 0), .pv (.slice none 0 0), .pv (.slice none 0 0), q7q true n.outs]]) rfl rfl r6r rfl p0p rfl rfl rfl rfl rfl rfl (by (simp only [s3s, r0r, r5r, r8r, a0p, a2m, T79] at *; omega)) ?_
 refine dv 1 ?_
 (refine e9o 1 rfl (LeLs.snoc (x' := v8v true (c4b n)) (.same (.same (.same (.same (.same (.same (.same (.le rfl .nil rfl (.le rfl .nil rfl (.le rfl .nil rfl (.same .nil))))))))))) _) ?_; refine b1o 1 (xs' := (a7u n 3 ++ [c4b n]).map (v8v true)) rfl (by rw [List.map_append]; rfl) ?_)
 refine dv 4 ?_
 (rw [f1w ⟨fK, fU⟩ h0]; exact a5d rfl rfl (fun _ => rfl) rfl)
end
section
theorem c6s (W : Tw) (ek en ep ew : Int) (eb : Bool) (hW : b9x W) : MethE Tryz.prog 309 2 [.agg [pI W.time, a5p true W.apps, .ref 0 0, .ref 1 0, pI W.hub.round, w7w true W.hub.ones, w7w true W.hub.twos, w7w true W.hub.outs, q7q true W.sink], .agg [pI ek, pI en, pI ep, pI ew, .pv (.bool eb)]] [(0, (0, .row 65 13 ((W.nodes).map (u2u true)))), (1, (0, .row 79 11 ((W.radio).map (v8v true))))] (ι := Tw × Bool) (fun S' => b9x S'.1 ∧ (S'.2 = false → S'.1.radio = W.radio)) (fun S' => kpB S'.2) (fun S' => .tup [.agg [pI S'.1.time, a5p true S'.1.apps, .ref 0 0, .ref 1 0, pI S'.1.hub.round, w7w true S'.1.hub.ones, w7w true S'.1.hub.twos, w7w true S'.1.hub.outs, q7q true S'.1.sink], .pv (.bool (S'.2))]) (fun S' => [(0, (0, .row 65 13 ((S'.1.nodes).map (u2u true)))), (1, (0, .row 79 11 ((S'.1.radio).map (v8v true))))]) := by
 refine mE (ι := Tw × Bool) Tryz.f309 (fun S' => [.agg [pI S'.1.time, a5p true S'.1.apps, .ref 0 0, .ref 1 0, pI S'.1.hub.round, w7w true S'.1.hub.ones, w7w true S'.1.hub.twos, w7w true S'.1.hub.outs, q7q true S'.1.sink], .pv (.bool (S'.2))]) 2 6 fun γ => ?_
 refine dv 1 ?_
 refine x8x (id := 2) rfl rfl rfl (x8x (id := 3) rfl rfl rfl (x2x (id := 4) b6x c0f rfl (dv 5 fun K K' => ?_)))
 refine x0x rfl rfl rfl (z3z ..) (dc 1 (aI ?_ ?_))<;>intro hc2<;>try simp at hc2
 ·refine dv 5 ?_
  exact ⟨(W, false), ⟨hW, (fun _ => rfl)⟩, [γ 0, γ 1], rfl, rfl, x4x⟩
 have hen : 0 ≤ en ∧ en ≤ 2 := hc2
 obtain ⟨k, rfl⟩ : ∃ k : Nat, en = (k : Int) := ⟨en.toNat, by omega⟩
 obtain ⟨n, hnd, hnI⟩ := b1a hW (i := k) (by omega)
 have hA := hW.1
 have hr40 := hW.2.2.2.1
 refine dv 6 ?_
 refine y3y (j := k) rfl rfl a7p rfl u6u rfl rfl (z0z hnd) ?_
 refine s7s rfl u6u rfl (by assumption) rfl rfl ?_
 refine x2x (id := 5) u6u p9p rfl (dc 8 (fun K K' => aI ?_ ?_))<;>intro o<;>try simp at o
 ·refine dv 2 ?_
  refine x0x rfl rfl rfl (c5o true n) (x2x (id := 6) u6u p9p rfl (dv 7 ?_))
  refine y3y (j := k) rfl rfl a7p rfl u6u rfl rfl (z0z hnd) ?_
  refine u3u (el' := a4y n) rfl rfl u6u rfl rfl rfl hnd rfl (s6s rfl) rfl rfl ?_
  refine dv 10 ?_
  exact ⟨({ W with nodes := W.nodes.set k (a4y n) }, decide ((a4y n).inc > n.inc)), ⟨a6h hW (f6b hnI), (fun _ => rfl)⟩, [γ 0, γ 1], (d5f γ _ gl rfl rfl), rfl, x4x⟩
 refine dc 5 (aI ?_ ?_)<;>intro o<;>try simp at o
 ·refine dv 5 ?_
  exact ⟨(W, false), ⟨hW, (fun _ => rfl)⟩, [γ 0, γ 1], rfl, rfl, x4x⟩
 refine dc 5 (aI ?_ ?_)<;>intro o<;>try simp at o
 ·refine a0d fun B X0 w0 => ?_
  refine txR 5 rfl rfl (dv 5 ?_)
  refine txM [] [] (c5g W.apps n ep hnI hA) rfl rfl rfl rfl fun j hj => ?_
  refine txR 6 rfl rfl (dv 3 ?_)
  refine x2x (id := 7) u6u p9p rfl (dv 2 ?_)
  refine u0u rfl (dv 6 ?_)
  refine y3y (j := k) rfl rfl a7p rfl u6u rfl rfl (z0z hnd) ?_
  refine u3u (el' := j.1) rfl rfl u6u rfl rfl rfl hnd rfl (s6s rfl) rfl rfl ?_
  refine dv 6 ?_
  exact ⟨({ W with nodes := W.nodes.set k j.1 }, j.2), ⟨a6h hW hj, (fun _ => rfl)⟩, [γ 0, γ 1], (d5f γ _ gl rfl rfl), rfl, x4x⟩
 refine dc 5 (aI ?_ ?_)<;>intro o<;>try simp at o
 ·refine dv 4 ?_
  refine x0x rfl rfl rfl (c5p true n) ?_
  refine rlM [1] [_] (a1g W.radio (c4e n) hr40) rfl rfl rfl ?_
  refine dv 7 ?_
  exact ⟨({ W with radio := b3f W.radio (c4e n) }, true), ⟨b5j hW (e8c hnI.1), (fun h => by cases h)⟩, [γ 0, _], rfl, rfl, x4x⟩
 refine dv 7 ?_
 refine x0x rfl rfl rfl (c5n true n) ?_
 refine y3y (j := k) rfl rfl a7p rfl u6u rfl rfl (z0z hnd) ?_
 refine u3u (el' := a8l n) rfl rfl u6u rfl rfl rfl hnd rfl (s6s rfl) rfl rfl ?_
 refine dc 5 (fun K K' => aS ?_ ?_)<;>intro o<;>try simp at o
 ·refine dv 1 ?_
  skip
  refine dv 5 ?_
  exact ⟨({ W with nodes := W.nodes.set k (a8l n) }, true), ⟨a6h hW (f0g hnI), (fun h => by cases h)⟩, [γ 0, γ 1], rfl, rfl, x4x⟩
 obtain rfl : k = 0 := by omega
 refine dv 1 ?_
 refine rlB a7q b6y ?_
 refine dv 1 ?_
 refine a0u rfl rfl a7q rfl rfl rfl rfl (a0g rfl) rfl ?_
 refine dv 0 ?_
 refine d6l 2 rfl (.same (.same (.same (.same (.same (.le (b := w7w true ([] : List Wo)) rfl .nil rfl (.le (b := w7w true ([] : List Wo)) rfl .nil rfl (.le (b := w7w true ([] : List Wo)) rfl .nil rfl (LeCs.refl _))))))))) ?_
 refine dv 5 ?_
 exact ⟨({ W with nodes := W.nodes.set 0 (a8l n), hub := hb0 }, true), ⟨d3j (a6h hW (f0g hnI)) e4y, (fun h => by cases h)⟩, [γ 0, γ 1], rfl, rfl, x4x⟩
end
section
theorem c5q (W : Tw) (ek en ep ew : Int) (eb : Bool) (hW : b9x W) : MethE Tryz.prog 310 2 [.agg [pI W.time, a5p true W.apps, .ref 0 0, .ref 1 0, pI W.hub.round, w7w true W.hub.ones, w7w true W.hub.twos, w7w true W.hub.outs, q7q true W.sink], .agg [pI ek, pI en, pI ep, pI ew, .pv (.bool eb)]] [(0, (0, .row 65 13 ((W.nodes).map (u2u true)))), (1, (0, .row 79 11 ((W.radio).map (v8v true))))] (ι := Tw × Bool) (fun S' => b9x S'.1 ∧ (S'.2 = false → S'.1.radio = W.radio)) (fun S' => kpB S'.2) (fun S' => .tup [.agg [pI S'.1.time, a5p true S'.1.apps, .ref 0 0, .ref 1 0, pI S'.1.hub.round, w7w true S'.1.hub.ones, w7w true S'.1.hub.twos, w7w true S'.1.hub.outs, q7q true S'.1.sink], .pv (.bool (S'.2))]) (fun S' => [(0, (0, .row 65 13 ((S'.1.nodes).map (u2u true)))), (1, (0, .row 79 11 ((S'.1.radio).map (v8v true))))]) := by
 refine mE (ι := Tw × Bool) Tryz.f310 (fun S' => [.agg [pI S'.1.time, a5p true S'.1.apps, .ref 0 0, .ref 1 0, pI S'.1.hub.round, w7w true S'.1.hub.ones, w7w true S'.1.hub.twos, w7w true S'.1.hub.outs, q7q true S'.1.sink], .pv (.bool (S'.2))]) 2 11 fun γ => ?_
 have hr40 := hW.2.2.2.1
 refine dv 1 ?_
 refine x8x (id := 2) rfl rfl rfl (x8x (id := 3) rfl rfl rfl (x2x (id := 4) b6x c0f rfl (dv 7 fun K K' => ?_)))
 refine a3y (n := W.radio.length) rfl r6r rfl rfl (List.length_map _) ?_
 refine r1r (.int .i64 ((W.radio.length : Int) - 1)) rfl rfl rfl (a6o rfl (by omega) (by omega) (by omega)) ?_
 refine x0x rfl rfl rfl (z3z ..) (dc 1 (aI ?_ ?_))<;>intro hc2<;>try simp at hc2
 ·refine dv 5 ?_
  exact ⟨(W, false), ⟨hW, (fun _ => rfl)⟩, [γ 0, γ 1], rfl, rfl, x4x⟩
 have hr40 := hW.2.2.2.1
 have hew : 0 ≤ ew ∧ ew ≤ (W.radio.length : Int) - 1 := hc2
 obtain ⟨j, rfl⟩ : ∃ j : Nat, ew = (j : Int) := ⟨ew.toNat, by omega⟩
 have hjl : j < W.radio.length := by omega
 obtain ⟨x, hx⟩ := gE W.radio j
 have hxr := hW.2.2.2.2.1 x (List.mem_of_getElem? hx)
 obtain ⟨n0, h0, h0I⟩ := b1a hW (i := 0) (by omega)
 have hHb := hW.2.2.2.2.2.1
 refine dv 6 ?_
 refine y3y (j := j) rfl rfl r6r rfl p0p rfl rfl hjl ?_
 refine s7s rfl p0p rfl (by assumption) rfl rfl ?_
 refine x2x (id := 5) p0p b0r rfl (dc 7 (fun K K' => aS ?_ ?_))<;>intro o<;>try simp at o
 ·refine dv 5 ?_
  refine y1y (id := 6) r6r rfl p0p rfl (dv 4 ?_)
  refine c7n p1p rfl r6r rfl p0p rfl rfl rfl rfl (by omega) (by omega) (by (simp only [s3s]; omega)) ?_
  refine b1y (f := v8v true) (l := ([] : List Wo)) (l2 := W.radio) (l' := W.radio.take j) rfl rfl r6r rfl p0p rfl rfl rfl rfl (z6z (fun _ => rfl) _) (by (simp; done)) (by simp only [a0p, b3h, r0r, T79]; omega) ?_
  refine dv 4 ?_
  refine r1r (.int .i64 ((j + 1 : Nat) : Int)) rfl rfl rfl (a6o rfl (by omega) (by omega) (by omega)) ?_
  refine c7n p1p rfl r6r rfl p0p rfl rfl rfl rfl (by omega) (by (simp only [s3s]; omega)) (by omega) ?_
  refine b1y (f := v8v true) (l := W.radio.take j) (l2 := W.radio) (l' := (W.radio.take j ++ W.radio.drop (j + 1))) rfl rfl r6r rfl p0p rfl rfl rfl rfl (z6z (fun _ => rfl) _) (by (simp; done)) (by simp only [a0p, b3h, r0r, T79]; omega) ?_
  refine dv 3 fun K K' => ?_
  (refine e4k 2 6 1 rfl rfl rfl rfl rfl rfl rfl ?_; obtain ⟨r, er, hr1, hr2⟩ : ∃ r, (W.radio.take j ++ W.radio.drop (j + 1)) = r ∧ r.length ≤ 40 ∧ ∀ q ∈ r, d0e q := ⟨_, rfl, e5w hW, e5x hW⟩; rw [er])
  refine dc 4 (aI ?_ ?_)<;>intro o<;>try simp at o
  ·refine dv 5 ?_
   exact ⟨({ W with radio := r }, true), ⟨a7n hW hr1 hr2, (fun h => by cases h)⟩, [γ 0, _], rfl, rfl, x4x⟩
  refine dv 2 ?_
  refine y1y (id := 9) r6r rfl p0p rfl (dv 2 fun K K' => ?_)
  refine w8w (ι := Bool) (fun b γ3 => [(73, .pv (.bool (b)))]) (fun b γ3 => []) (fun b => True) (q3q [2, 4, 6] rfl) (a0j [0, 1, 2, 3, 4, 5, 6, 7, 8, 9, 10, 11, 12] rfl) ?_ fun b γ3 hi => ?_
  ·refine dc 5 (aS ?_ ?_)<;>intro o<;>try simp at o
   ·refine dv 13 ?_
    exact ⟨_, trivial, [], x6x, x6x, x4x, x4x, rfl⟩
   refine dc 4 (aS ?_ ?_)<;>intro o<;>try simp at o
   ·refine dv 9 ?_
    exact ⟨_, trivial, [], x6x, x6x, x4x, x4x, rfl⟩
   refine dc 5 (aS ?_ ?_)<;>intro o<;>try simp at o
   ·refine dv 4 ?_
    exact ⟨_, trivial, [], x6x, x6x, x4x, x4x, rfl⟩
   refine dv 5 ?_
   exact ⟨_, trivial, [], x6x, x6x, x4x, x4x, rfl⟩
  ·try dsimp only [a9u, a9v]
   refine dc 0 (aS ?_ ?_)<;>intro o<;>try simp at o
   ·obtain ⟨q, hq⟩ : ∃ q : Nat, x.to = (q : Int) := ⟨x.to.toNat, by have := hxr.1; omega⟩
    obtain ⟨n, hnd, hnI⟩ := b1a hW (i := q) (by have := hxr.1; omega)
    refine dv 4 ?_
    refine y9y (out := pI x.to) rfl s4s rfl rfl ?_
    rw [hq]
    refine y3y (j := q) rfl rfl a7p rfl u6u rfl rfl (z0z hnd) ?_
    refine s7s rfl u6u rfl (by assumption) rfl rfl ?_
    refine dv 1 ?_
    refine x0x rfl rfl rfl (a9r true n x) (dv 3 ?_)
    refine x2x (id := 12) u6u p9p rfl (dv 6 ?_)
    refine y9y (out := pI x.to) rfl s4s rfl rfl ?_
    rw [hq]
    refine dv 1 ?_
    refine y3y (j := q) rfl rfl a7p rfl u6u rfl rfl (z0z hnd) ?_
    refine u3u (el' := (p4p n x).1) rfl rfl u6u rfl rfl rfl hnd rfl (s6s rfl) rfl rfl ?_
    refine dv 7 ?_
    refine rlM [1] [_] (a1g r (p4p n x).2 hr1) rfl rfl rfl ?_
    refine dv 7 ?_
    exact ⟨({ W with nodes := W.nodes.set q (p4p n x).1, radio := b3f r (p4p n x).2 }, true), ⟨b5j (W := { W with nodes := _, radio := r }) (a7n (a6h hW (e5k hnI x)) hr1 hr2) (d0f hnI.1 x), (fun h => by cases h)⟩, [γ 0, _], rfl, rfl, x4x⟩
   refine dv 2 ?_
   refine y9y (out := .agg (a8n true W.hub)) rfl a7q rfl rfl ?_
   refine dv 2 ?_
   refine y3y (j := 0) rfl rfl a7p rfl u6u rfl rfl (z0z h0) (s7s rfl u6u rfl (by assumption) rfl rfl ?_)
   refine dv 1 ?_
   refine x0x rfl rfl rfl (b0z true W.hub n0 x) (dv 4 ?_)
   refine x2x (id := 10) a7q b6y rfl (x2x (id := 11) u6u p9p rfl (dv 6 ?_))
   refine a0u rfl rfl a7q rfl rfl rfl rfl (a0g rfl) rfl ?_
   refine dv 4 ?_
   refine y3y (j := 0) rfl rfl a7p rfl u6u rfl rfl (z0z h0) ?_
   refine u3u (el' := (w1w W.hub n0 x).2.1) rfl rfl u6u rfl rfl rfl h0 rfl (s6s rfl) rfl rfl ?_
   refine dv 7 ?_
   refine rlM [1] [_] (a1g r (w1w W.hub n0 x).2.2 hr1) rfl rfl rfl ?_
   refine dv 7 ?_
   exact ⟨({ W with nodes := W.nodes.set 0 (w1w W.hub n0 x).2.1, radio := b3f r (w1w W.hub n0 x).2.2, hub := (w1w W.hub n0 x).1 }, true), ⟨b5j (W := { W with nodes := _, radio := r, hub := _ }) (a7n (d3j (a6h hW (d0g h0I hHb x)) (b4x h0I.1 hHb x)) hr1 hr2) (c0x W.hub n0 x), (fun h => by cases h)⟩, [γ 0, _], rfl, rfl, x4x⟩
 refine dc 4 (aS ?_ ?_)<;>intro o<;>try simp at o
 ·refine dv 2 fun K K' => ?_
  (obtain ⟨r, er, hr1, hr2⟩ : ∃ r, W.radio = r ∧ r.length ≤ 40 ∧ ∀ q ∈ r, d0e q := ⟨_, rfl, hW.2.2.2.1, hW.2.2.2.2.1⟩; rw [er])
  refine dc 4 (aI ?_ ?_)<;>intro o<;>try simp at o
  ·refine dv 5 ?_
   exact ⟨({ W with radio := r }, true), ⟨a7n hW hr1 hr2, (fun h => by cases h)⟩, [γ 0, _], rfl, rfl, x4x⟩
  refine dv 2 ?_
  refine y1y (id := 9) r6r rfl p0p rfl (dv 2 fun K K' => ?_)
  refine w8w (ι := Bool) (fun b γ2 => [(73, .pv (.bool (b)))]) (fun b γ2 => []) (fun b => True) (q3q [2, 4, 6] rfl) (a0j [0, 1, 2, 3, 4, 5, 6, 7, 8, 9, 10, 11, 12] rfl) ?_ fun b γ2 hi => ?_
  ·refine dc 5 (aS ?_ ?_)<;>intro o<;>try simp at o
   ·refine dv 13 ?_
    exact ⟨_, trivial, [], x6x, x6x, x4x, x4x, rfl⟩
   refine dc 4 (aS ?_ ?_)<;>intro o<;>try simp at o
   ·refine dv 9 ?_
    exact ⟨_, trivial, [], x6x, x6x, x4x, x4x, rfl⟩
   refine dc 5 (aS ?_ ?_)<;>intro o<;>try simp at o
   ·refine dv 4 ?_
    exact ⟨_, trivial, [], x6x, x6x, x4x, x4x, rfl⟩
   refine dv 5 ?_
   exact ⟨_, trivial, [], x6x, x6x, x4x, x4x, rfl⟩
  ·try dsimp only [a9u, a9v]
   refine dc 0 (aS ?_ ?_)<;>intro o<;>try simp at o
   ·obtain ⟨q, hq⟩ : ∃ q : Nat, x.to = (q : Int) := ⟨x.to.toNat, by have := hxr.1; omega⟩
    obtain ⟨n, hnd, hnI⟩ := b1a hW (i := q) (by have := hxr.1; omega)
    refine dv 4 ?_
    refine y9y (out := pI x.to) rfl s4s rfl rfl ?_
    rw [hq]
    refine y3y (j := q) rfl rfl a7p rfl u6u rfl rfl (z0z hnd) ?_
    refine s7s rfl u6u rfl (by assumption) rfl rfl ?_
    refine dv 1 ?_
    refine x0x rfl rfl rfl (a9r true n x) (dv 3 ?_)
    refine x2x (id := 12) u6u p9p rfl (dv 6 ?_)
    refine y9y (out := pI x.to) rfl s4s rfl rfl ?_
    rw [hq]
    refine dv 1 ?_
    refine y3y (j := q) rfl rfl a7p rfl u6u rfl rfl (z0z hnd) ?_
    refine u3u (el' := (p4p n x).1) rfl rfl u6u rfl rfl rfl hnd rfl (s6s rfl) rfl rfl ?_
    refine dv 7 ?_
    refine rlM [1] [_] (a1g r (p4p n x).2 hr1) rfl rfl rfl ?_
    refine dv 7 ?_
    exact ⟨({ W with nodes := W.nodes.set q (p4p n x).1, radio := b3f r (p4p n x).2 }, true), ⟨b5j (W := { W with nodes := _, radio := r }) (a7n (a6h hW (e5k hnI x)) hr1 hr2) (d0f hnI.1 x), (fun h => by cases h)⟩, [γ 0, _], rfl, rfl, x4x⟩
   refine dv 2 ?_
   refine y9y (out := .agg (a8n true W.hub)) rfl a7q rfl rfl ?_
   refine dv 2 ?_
   refine y3y (j := 0) rfl rfl a7p rfl u6u rfl rfl (z0z h0) (s7s rfl u6u rfl (by assumption) rfl rfl ?_)
   refine dv 1 ?_
   refine x0x rfl rfl rfl (b0z true W.hub n0 x) (dv 4 ?_)
   refine x2x (id := 10) a7q b6y rfl (x2x (id := 11) u6u p9p rfl (dv 6 ?_))
   refine a0u rfl rfl a7q rfl rfl rfl rfl (a0g rfl) rfl ?_
   refine dv 4 ?_
   refine y3y (j := 0) rfl rfl a7p rfl u6u rfl rfl (z0z h0) ?_
   refine u3u (el' := (w1w W.hub n0 x).2.1) rfl rfl u6u rfl rfl rfl h0 rfl (s6s rfl) rfl rfl ?_
   refine dv 7 ?_
   refine rlM [1] [_] (a1g r (w1w W.hub n0 x).2.2 hr1) rfl rfl rfl ?_
   refine dv 7 ?_
   exact ⟨({ W with nodes := W.nodes.set 0 (w1w W.hub n0 x).2.1, radio := b3f r (w1w W.hub n0 x).2.2, hub := (w1w W.hub n0 x).1 }, true), ⟨b5j (W := { W with nodes := _, radio := r, hub := _ }) (a7n (d3j (a6h hW (d0g h0I hHb x)) (b4x h0I.1 hHb x)) hr1 hr2) (c0x W.hub n0 x), (fun h => by cases h)⟩, [γ 0, _], rfl, rfl, x4x⟩
 refine dv 1 ?_
 refine y1y (id := 6) r6r rfl p0p rfl (dv 4 ?_)
 refine c7n p1p rfl r6r rfl p0p rfl rfl rfl rfl (by omega) (by omega) (by (simp only [s3s]; omega)) ?_
 refine b1y (f := v8v true) (l := ([] : List Wo)) (l2 := W.radio) (l' := W.radio.take j) rfl rfl r6r rfl p0p rfl rfl rfl rfl (z6z (fun _ => rfl) _) (by (simp; done)) (by simp only [a0p, b3h, r0r, T79]; omega) ?_
 refine dv 4 ?_
 refine r1r (.int .i64 ((j + 1 : Nat) : Int)) rfl rfl rfl (a6o rfl (by omega) (by omega) (by omega)) ?_
 refine c7n p1p rfl r6r rfl p0p rfl rfl rfl rfl (by omega) (by (simp only [s3s]; omega)) (by omega) ?_
 refine b1y (f := v8v true) (l := W.radio.take j) (l2 := W.radio) (l' := (W.radio.take j ++ W.radio.drop (j + 1))) rfl rfl r6r rfl p0p rfl rfl rfl rfl (z6z (fun _ => rfl) _) (by (simp; done)) (by simp only [a0p, b3h, r0r, T79]; omega) ?_
 refine dv 3 fun K K' => ?_
 (refine e4k 2 6 1 rfl rfl rfl rfl rfl rfl rfl ?_; obtain ⟨r, er, hr1, hr2⟩ : ∃ r, (W.radio.take j ++ W.radio.drop (j + 1)) = r ∧ r.length ≤ 40 ∧ ∀ q ∈ r, d0e q := ⟨_, rfl, e5w hW, e5x hW⟩; rw [er])
 refine dc 4 (aI ?_ ?_)<;>intro o<;>try simp at o
 ·refine dv 5 ?_
  exact ⟨({ W with radio := r }, true), ⟨a7n hW hr1 hr2, (fun h => by cases h)⟩, [γ 0, _], rfl, rfl, x4x⟩
 refine dv 2 ?_
 refine y1y (id := 9) r6r rfl p0p rfl (dv 2 fun K K' => ?_)
 refine w8w (ι := Bool) (fun b γ1 => [(73, .pv (.bool (b)))]) (fun b γ1 => []) (fun b => True) (q3q [2, 4, 6] rfl) (a0j [0, 1, 2, 3, 4, 5, 6, 7, 8, 9, 10, 11, 12] rfl) ?_ fun b γ1 hi => ?_
 ·refine dc 5 (aS ?_ ?_)<;>intro o<;>try simp at o
  ·refine dv 13 ?_
   exact ⟨_, trivial, [], x6x, x6x, x4x, x4x, rfl⟩
  refine dc 4 (aS ?_ ?_)<;>intro o<;>try simp at o
  ·refine dv 9 ?_
   exact ⟨_, trivial, [], x6x, x6x, x4x, x4x, rfl⟩
  refine dc 5 (aS ?_ ?_)<;>intro o<;>try simp at o
  ·refine dv 4 ?_
   exact ⟨_, trivial, [], x6x, x6x, x4x, x4x, rfl⟩
  refine dv 5 ?_
  exact ⟨_, trivial, [], x6x, x6x, x4x, x4x, rfl⟩
 ·try dsimp only [a9u, a9v]
  refine dc 0 (aS ?_ ?_)<;>intro o<;>try simp at o
  ·obtain ⟨q, hq⟩ : ∃ q : Nat, x.to = (q : Int) := ⟨x.to.toNat, by have := hxr.1; omega⟩
   obtain ⟨n, hnd, hnI⟩ := b1a hW (i := q) (by have := hxr.1; omega)
   refine dv 4 ?_
   refine y9y (out := pI x.to) rfl s4s rfl rfl ?_
   rw [hq]
   refine y3y (j := q) rfl rfl a7p rfl u6u rfl rfl (z0z hnd) ?_
   refine s7s rfl u6u rfl (by assumption) rfl rfl ?_
   refine dv 1 ?_
   refine x0x rfl rfl rfl (a9r true n x) (dv 3 ?_)
   refine x2x (id := 12) u6u p9p rfl (dv 6 ?_)
   refine y9y (out := pI x.to) rfl s4s rfl rfl ?_
   rw [hq]
   refine dv 1 ?_
   refine y3y (j := q) rfl rfl a7p rfl u6u rfl rfl (z0z hnd) ?_
   refine u3u (el' := (p4p n x).1) rfl rfl u6u rfl rfl rfl hnd rfl (s6s rfl) rfl rfl ?_
   refine dv 7 ?_
   refine rlM [1] [_] (a1g r (p4p n x).2 hr1) rfl rfl rfl ?_
   refine dv 7 ?_
   exact ⟨({ W with nodes := W.nodes.set q (p4p n x).1, radio := b3f r (p4p n x).2 }, true), ⟨b5j (W := { W with nodes := _, radio := r }) (a7n (a6h hW (e5k hnI x)) hr1 hr2) (d0f hnI.1 x), (fun h => by cases h)⟩, [γ 0, _], rfl, rfl, x4x⟩
  refine dv 2 ?_
  refine y9y (out := .agg (a8n true W.hub)) rfl a7q rfl rfl ?_
  refine dv 2 ?_
  refine y3y (j := 0) rfl rfl a7p rfl u6u rfl rfl (z0z h0) (s7s rfl u6u rfl (by assumption) rfl rfl ?_)
  refine dv 1 ?_
  refine x0x rfl rfl rfl (b0z true W.hub n0 x) (dv 4 ?_)
  refine x2x (id := 10) a7q b6y rfl (x2x (id := 11) u6u p9p rfl (dv 6 ?_))
  refine a0u rfl rfl a7q rfl rfl rfl rfl (a0g rfl) rfl ?_
  refine dv 4 ?_
  refine y3y (j := 0) rfl rfl a7p rfl u6u rfl rfl (z0z h0) ?_
  refine u3u (el' := (w1w W.hub n0 x).2.1) rfl rfl u6u rfl rfl rfl h0 rfl (s6s rfl) rfl rfl ?_
  refine dv 7 ?_
  refine rlM [1] [_] (a1g r (w1w W.hub n0 x).2.2 hr1) rfl rfl rfl ?_
  refine dv 7 ?_
  exact ⟨({ W with nodes := W.nodes.set 0 (w1w W.hub n0 x).2.1, radio := b3f r (w1w W.hub n0 x).2.2, hub := (w1w W.hub n0 x).1 }, true), ⟨b5j (W := { W with nodes := _, radio := r, hub := _ }) (a7n (d3j (a6h hW (d0g h0I hHb x)) (b4x h0I.1 hHb x)) hr1 hr2) (c0x W.hub n0 x), (fun h => by cases h)⟩, [γ 0, _], rfl, rfl, x4x⟩
end
section
theorem c6t (W : Tw) (hW : b9x W) : MethE Tryz.prog 313 2 [.agg [pI W.time, a5p true W.apps, .ref 0 0, .ref 1 0, pI W.hub.round, w7w true W.hub.ones, w7w true W.hub.twos, w7w true W.hub.outs, q7q true W.sink]] [(0, (0, .row 65 13 ((W.nodes).map (u2u true)))), (1, (0, .row 79 11 ((W.radio).map (v8v true))))] (ι := Tw × Bool) (fun S' => b9x S'.1 ∧ S'.1.nodes = W.nodes ∧ S'.1.radio = W.radio) (fun S' => [0, 1]) (fun S' => .tup [.agg [pI S'.1.time, a5p true S'.1.apps, .ref 0 0, .ref 1 0, pI S'.1.hub.round, w7w true S'.1.hub.ones, w7w true S'.1.hub.twos, w7w true S'.1.hub.outs, q7q true S'.1.sink], .pv (.bool (S'.2))]) (fun S' => [(0, (0, .row 65 13 ((W.nodes).map (u2u true)))), (1, (0, .row 79 11 ((W.radio).map (v8v true))))]) := by
 refine mE (ι := Tw × Bool) Tryz.f313 (fun S' => [.agg [pI S'.1.time, a5p true S'.1.apps, .ref 0 0, .ref 1 0, pI S'.1.hub.round, w7w true S'.1.hub.ones, w7w true S'.1.hub.twos, w7w true S'.1.hub.outs, q7q true S'.1.sink], .pv (.bool (S'.2))]) 2 5 fun γ => ?_
 obtain ⟨n0, h0, h0I⟩ := b1a hW (i := 0) (by omega)
 have hol := e8v (h := W.hub) (n := n0)
 have hsl := hW.2.2.2.2.2.2
 refine dv 1 ?_
 refine x8x (id := 2) rfl rfl rfl (x2x (id := 3) b6x c0f rfl (dv 3 ?_))
 refine y9y (out := .agg (a8n true W.hub)) rfl a7q rfl rfl ?_
 refine dv 2 ?_
 refine y3y (j := 0) rfl rfl a7p rfl u6u rfl rfl (z0z h0) (s7s rfl u6u rfl (by assumption) rfl rfl ?_)
 refine x0x rfl rfl rfl (c6r true W.hub n0) (dv 5 fun K K' => ?_)
 refine y3y (j := 0) rfl rfl a7p rfl u6u rfl rfl (z0z h0) (dc 4 (aS ?_ ?_))<;>intro o<;>try simp at o
 ·refine dv 12 ?_
  exact ⟨(W, false), ⟨hW, rfl, rfl⟩, [γ 0, γ 1], rfl, rfl, x4x⟩
 refine dc 7 (aI ?_ ?_)<;>intro o<;>try simp at o
 ·refine dv 5 ?_
  exact ⟨(W, false), ⟨hW, rfl, rfl⟩, [γ 0, γ 1], rfl, rfl, x4x⟩
 refine dv 2 ?_
 refine y1y (id := 4) p5p rfl z9z rfl (dv 2 ?_)
 refine w2w (zs := (W.sink).map w3w) rfl rfl p5p rfl z9z rfl rfl rfl (z6z (fun _ => rfl) _) rfl (by simp only [s3s, r0r, r5r, r8r, a0p, a2m, b3h, T141]; omega) ?_
 refine dv 4 ?_
 refine b0i (f := w3w) (l := (a9m W.hub n0)) rfl p5p rfl z9z rfl rfl rfl (by omega) (by rw [List.length_map]; omega) (by rw [List.length_map]; omega) ?_
 rw [List.length_map, Int.toNat_natCast, Int.toNat_natCast, List.take_length]
 refine w2w (zs := ((W.sink ++ (a9m W.hub n0).drop W.sink.length)).map w3w) rfl rfl p5p rfl z9z rfl rfl rfl (z6z (fun _ => rfl) _) (a5c w3w W.sink _) (by simp only [s3s, r0r, r5r, r8r, a0p, a2m, b3h, T141]; omega) ?_
 refine dv 2 ?_
 refine v5v (b := q7q true (W.sink ++ (a9m W.hub n0).drop W.sink.length)) 2 8 rfl rfl rfl (.ref rfl (Le.ow_map _ (fun _ => rfl) (fun _ => rfl)) .nil) rfl rfl rfl rfl ?_
 refine dv 4 ?_
 refine x0x rfl rfl rfl (a8p true (W.sink ++ (a9m W.hub n0).drop W.sink.length) 96) ?_
 refine dv 3 ?_
 exact ⟨({ W with sink := (W.sink ++ (a9m W.hub n0).drop W.sink.length) }, a9h okO a4l (W.sink ++ (a9m W.hub n0).drop W.sink.length) 96), ⟨f3p hW (by simp only [r0r, b3h]; omega), rfl, rfl⟩, [γ 0, γ 1], rfl, rfl, x4x⟩
end
section
theorem d3k (W : Tw) (ek en ep ew : Int) (eb : Bool) (hW : b9x W) : MethE Tryz.prog 290 2 [.agg [pI W.time, a5p true W.apps, .ref 0 0, .ref 1 0, pI W.hub.round, w7w true W.hub.ones, w7w true W.hub.twos, w7w true W.hub.outs, q7q true W.sink], .agg [pI ek, pI en, pI ep, pI ew, .pv (.bool eb)]] [(0, (0, .row 65 13 ((W.nodes).map (u2u true)))), (1, (0, .row 79 11 ((W.radio).map (v8v true))))] (ι := Tw × Bool) (fun S' => b9x S'.1 ∧ (S'.2 = false → S'.1.radio = W.radio)) (fun S' => kpB S'.2) (fun S' => .tup [.agg [pI S'.1.time, a5p true S'.1.apps, .ref 0 0, .ref 1 0, pI S'.1.hub.round, w7w true S'.1.hub.ones, w7w true S'.1.hub.twos, w7w true S'.1.hub.outs, q7q true S'.1.sink], .pv (.bool (S'.2))]) (fun S' => [(0, (0, .row 65 13 ((S'.1.nodes).map (u2u true)))), (1, (0, .row 79 11 ((S'.1.radio).map (v8v true))))]) := by
 refine mE (ι := Tw × Bool) Tryz.f290 (fun S' => [.agg [pI S'.1.time, a5p true S'.1.apps, .ref 0 0, .ref 1 0, pI S'.1.hub.round, w7w true S'.1.hub.ones, w7w true S'.1.hub.twos, w7w true S'.1.hub.outs, q7q true S'.1.sink], .pv (.bool (S'.2))]) 2 5 fun γ => ?_
 obtain ⟨n0, h0, h0I⟩ := b1a hW (i := 0) (by omega)
 have hHb := hW.2.2.2.2.2.1
 have hr40 := hW.2.2.2.1
 refine dv 1 ?_
 refine x8x (id := 2) rfl rfl rfl (x8x (id := 3) rfl rfl rfl (x2x (id := 4) b6x c0f rfl (dv 4 ?_)))
 refine r1r (.int .i64 (IntKind.i64.wrap (W.time + 1))) rfl rfl rfl rfl ?_
 refine dv 7 fun K K' => ?_
 refine w8w (ι := Bool) (fun b γ1 => [(16, .pv (.bool (b)))]) (fun b γ1 => []) (fun b => True) (q3q [2, 3, 4, 15] rfl) (a0j [0, 1, 2, 3, 4, 5, 6] rfl) ?_ fun b γ1 hi => ?_
 ·refine dc 3 (aI ?_ ?_)<;>intro h<;>try simp at h
  ·refine dv 1 ?_
   exact ⟨_, trivial, [], x6x, x6x, x4x, x4x, rfl⟩
  refine dc 3 (aI ?_ ?_)<;>intro h<;>try simp at h
  ·refine dv 1 ?_
   exact ⟨_, trivial, [], x6x, x6x, x4x, x4x, rfl⟩
  refine dc 3 (aI ?_ ?_)<;>intro h<;>try simp at h
  ·refine dv 1 ?_
   exact ⟨_, trivial, [], x6x, x6x, x4x, x4x, rfl⟩
  refine dv 3 ?_
  exact ⟨_, trivial, [], x6x, x6x, x4x, x4x, rfl⟩
 ·try dsimp only [a9u, a9v]
  refine dc 0 (aI ?_ ?_)<;>intro h<;>try simp at h
  ·refine a0d fun B X0 w0 => ?_
   refine txR 2 rfl rfl (dv 2 ?_)
   refine txM [0, 1] [_, _] (c6s { W with time := (IntKind.i64.wrap (W.time + 1)) } ek en ep ew eb hW) rfl rfl rfl rfl fun j hj => ?_
   obtain ⟨hj1, hj2⟩ := hj
   refine txR 4 rfl rfl (dv 4 ?_)
   refine u0u rfl (dv 1 ?_)
   exact ⟨j, ⟨hj1, hj2⟩, [_, _], (by cases hb : j.2 <;> rfl), rfl, x4x⟩
  refine w8w (ι := Bool) (fun b γ2 => [(26, .pv (.bool (b)))]) (fun b γ2 => []) (fun b => True) (q3q [2, 3, 4, 15] rfl) (a0j [0, 1, 2, 3, 4, 5, 6] rfl) ?_ fun b γ2 hi => ?_
  ·refine dc 3 (aI ?_ ?_)<;>intro h<;>try simp at h
   ·refine dv 1 ?_
    exact ⟨_, trivial, [], x6x, x6x, x4x, x4x, rfl⟩
   refine dv 3 ?_
   exact ⟨_, trivial, [], x6x, x6x, x4x, x4x, rfl⟩
  ·try dsimp only [a9u, a9v]
   refine dc 0 (aI ?_ ?_)<;>intro h<;>try simp at h
   ·refine a0d fun B X0 w0 => ?_
    refine txR 2 rfl rfl (dv 2 ?_)
    refine txM [0, 1] [_, _] (c5q { W with time := (IntKind.i64.wrap (W.time + 1)) } ek en ep ew eb hW) rfl rfl rfl rfl fun j hj => ?_
    obtain ⟨hj1, hj2⟩ := hj
    refine txR 4 rfl rfl (dv 4 ?_)
    refine u0u rfl (dv 1 ?_)
    exact ⟨j, ⟨hj1, hj2⟩, [_, _], (by cases hb : j.2 <;> rfl), rfl, x4x⟩
   refine dc 3 (aS ?_ ?_)<;>intro h<;>try simp at h
   ·refine dc 3 (aS ?_ ?_)<;>intro h<;>try simp at h
    ·refine dv 6 ?_
     exact ⟨({ W with time := (IntKind.i64.wrap (W.time + 1)) }, false), ⟨hW, fun _ => rfl⟩, [γ 0, γ 1], rfl, rfl, x4x⟩
    refine a0d fun B X0 w0 => ?_
    refine txR 1 rfl rfl (dv 1 ?_)
    refine txM [0, 1] [_, _] (c6t { W with time := (IntKind.i64.wrap (W.time + 1)) } hW) rfl rfl rfl rfl fun j hj => ?_
    obtain ⟨hj1, hj2, hj3⟩ := hj
    refine txR 4 rfl rfl (dv 4 ?_)
    refine u0u rfl (dv 1 ?_)
    exact ⟨j, ⟨hj1, fun _ => hj3⟩, [γ 0, γ 1], (d5f γ _ gl rfl rfl), rfl, HE.row rfl (by rw [hj2]) (HE.row rfl (by rw [hj3]) HE.nil)⟩
   refine dv 2 ?_
   refine y9y (out := .agg (a8n true W.hub)) rfl a7q rfl rfl ?_
   refine dv 2 ?_
   refine y3y (j := 0) rfl rfl a7p rfl u6u rfl rfl (z0z h0) (s7s rfl u6u rfl (by assumption) rfl rfl ?_)
   refine x0x rfl rfl rfl (c5l true W.hub n0) (dv 4 ?_)
   refine x2x (id := 5) a7q b6y rfl (x2x (id := 6) u6u p9p rfl (dv 8 ?_))
   refine y3y (j := 0) rfl rfl a7p rfl u6u rfl rfl (z0z h0) (dv 7 ?_)
   refine a0u rfl rfl a7q rfl rfl rfl rfl (a0g rfl) rfl ?_
   refine dv 4 ?_
   refine y3y (j := 0) rfl rfl a7p rfl u6u rfl rfl (z0z h0) ?_
   refine u3u (el' := (q5q W.hub n0).2.1) rfl rfl u6u rfl rfl rfl h0 rfl (s6s rfl) rfl rfl ?_
   refine dv 4 ?_
   refine rlM [1] [_] (a1g W.radio (q5q W.hub n0).2.2 hr40) rfl rfl rfl ?_
   refine dv 8 ?_
   exact ⟨({ W with time := (IntKind.i64.wrap (W.time + 1)), nodes := W.nodes.set 0 (q5q W.hub n0).2.1, radio := b3f W.radio (q5q W.hub n0).2.2, hub := (q5q W.hub n0).1 }, decide ((q5q W.hub n0).2.1.led > n0.led)), ⟨b5j (W := { W with nodes := _, hub := _ }) (d3j (a6h hW (f3i h0I hHb)) (d3a h0I.1 hHb)) (e5c W.hub n0), (by intro hf; rcases c5m ⟨hHb, h0I.1⟩ with ⟨h1, h2⟩ | h2; (rw [h1]; simp [b3f]); exact absurd h2 (of_decide_eq_false hf))⟩, [γ 0, _], (by rcases c5m ⟨hHb, h0I.1⟩ with ⟨h1, h2⟩ | h2; (rw [h1, decide_eq_false h2]; rfl); (rw [decide_eq_true h2]; rfl)), rfl, x4x⟩
end
section
theorem d0n (c : Bool) (bs : List Nat) : Meth Tryz.prog 107 1 [] [v4v c bs] [(0, (0, .dead))] (.ptr 0 0 0) [(0, (0, .box 243 [v4v c (bs.take 2000), .pv (.int .i64 0)]))] := by
 refine mX Tryz.f107 [.ptr 0 0 0] 1 0 fun γ => ?_
 refine dc 7 (fun K K' => aS ?_ ?_)<;>intro o<;>try simp at o
 ·refine dv 3 ?_
  refine rlB e9g e9i ?_
  refine x8x (id := 0) rfl rfl rfl (dv 2 ?_)
  exact ⟨[_], rfl, rfl, HE.box rfl (by show _ = [v4v c (bs.take 2000), _]; rw [List.take_of_length_le (by omega)]; rfl) HE.nil⟩
 refine dv 2 ?_
 refine b0i rfl f0s rfl f4c rfl rfl rfl (by omega) (by omega) (by omega) (dv 3 ?_)
 refine rlB e9g e9i ?_
 refine x8x (id := 0) rfl rfl rfl (dv 2 ?_)
 exact ⟨[_], rfl, rfl, x4x⟩
theorem x1x (c : Bool) (bs : List Nat) (p n : Nat) (hp : p < 1000000000) (hbs : ∀ b ∈ bs, b < 256) : Meth Tryz.prog 109 1 [0] [.ptr 0 0 0, .pv (.int .i64 (n : Int))] [(0, (0, .box 243 [v4v c bs, .pv (.int .i64 ((p : Nat) : Int))]))] (.pv (.int .i64 (pk bs p n : Int))) [(0, (0, .box 243 [v4v c bs, .pv (.int .i64 ((p + 1 : Nat) : Int))]))] := by
 refine mX Tryz.f109 [.pv (.int .i64 (pk bs p n : Int))] 1 0 fun γ => ?_
 refine dv 8 ?_
 refine x7x (b := 1) rfl rfl (by omega) (dc 8 (fun K K' => aS ?_ ?_))<;>intro o<;>try simp at o
 ·refine dv 10 ?_
  refine ⟨[γ 0], rfl, congrArg (fun v : Nat => some [AV.pv (.int .i64 (v : Int))]) (?_ : _ = pk bs p n), HE.box rfl rfl HE.nil⟩
  (rw [pk, if_pos (.inl (by omega))])
 refine dc 7 (aI ?_ ?_)<;>intro hc3<;>try simp at hc3
 ·refine dv 3 ?_
  refine ⟨[γ 0], rfl, congrArg (fun v : Nat => some [AV.pv (.int .i64 (v : Int))]) (?_ : _ = pk bs p n), HE.box rfl rfl HE.nil⟩
  (subst hc3; simp [pk]; done)
 refine dv 6 ?_
 refine r1r (.int .i64 (p : Int)) rfl rfl rfl (a6o rfl (by omega) (by omega) (by omega)) ?_
 refine dc 10 (fun K K' => aI ?_ ?_)<;>intro o<;>try simp at o
 ·refine dv 6 ?_
  have hj : bs[p]? = some (bs.getD (p) 0) := by rw [List.getD_eq_getElem?_getD, List.getElem?_eq_getElem (by omega)]; rfl
  have h256 := hbs _ (List.mem_of_getElem? hj)
  refine a9c (j := p) rfl rfl f0s rfl f4c rfl hj ?_
  refine dv 1 ?_
  refine c8r rfl f4c s4s rfl rfl (by omega) (dv 1 ?_)
  refine c8p rfl rfl (by omega) (dv 2 ?_)
  refine ⟨[γ 0], rfl, congrArg (fun v : Nat => some [AV.pv (.int .i64 (v : Int))]) (?_ : _ = pk bs p n), HE.box rfl rfl HE.nil⟩
  (rw [pk, if_neg (by omega), if_pos (by omega)])
 refine dv 12 ?_
 have hm0 : bs.length ≠ 0 := by intro h0; exact absurd (List.length_eq_zero_iff.1 h0) (by assumption)
 refine c8p rfl rfl hm0 ?_
 have hj1 : bs[p % bs.length]? = some (bs.getD (p % bs.length) 0) := by rw [List.getD_eq_getElem?_getD, List.getElem?_eq_getElem (Nat.mod_lt _ (by omega))]; rfl
 have h1 := hbs _ (List.mem_of_getElem? hj1)
 refine dv 2 ?_
 refine c8r rfl f4c s4s rfl rfl (by omega) (b7a (b := 131) rfl rfl (by omega) (dv 5 ?_))
 refine b7a (b := 7) rfl rfl (by omega) (x7x (b := 3) rfl rfl (by omega) (dv 5 ?_))
 refine c8p rfl rfl (by omega) ?_
 have hj2 : bs[(p * 7 + 3) % bs.length]? = some (bs.getD ((p * 7 + 3) % bs.length) 0) := by rw [List.getD_eq_getElem?_getD, List.getElem?_eq_getElem (Nat.mod_lt _ (by omega))]; rfl
 have h2 := hbs _ (List.mem_of_getElem? hj2)
 have hq := Nat.div_le_self p bs.length
 refine dv 2 ?_
 refine c8r rfl f4c s4s rfl rfl (by omega) (b7a (b := 1117) rfl rfl (by omega) (x7x rfl rfl (by omega) (dv 1 ?_)))
 refine b7a (b := 29) rfl rfl (by omega) (x7x rfl rfl (by omega) (dv 6 ?_))
 refine c8q rfl rfl (by omega) (by omega) (b7a (b := 53) rfl rfl (by omega) (x7x rfl rfl (by omega) (dv 4 ?_)))
 refine c8q (b := 64) rfl rfl (by omega) (by omega) (f0z rfl rfl (by omega) (by omega) (dv 4 ?_))
 refine c8p rfl rfl (by omega) (dv 2 ?_)
 refine ⟨[γ 0], rfl, congrArg (fun v : Nat => some [AV.pv (.int .i64 (v : Int))]) (?_ : _ = pk bs p n), HE.box rfl rfl HE.nil⟩
 (rw [pk, if_neg (by omega), if_neg (by omega)]; rfl)
theorem d0o (c c' : Bool) (l l' : List Int) : a0t Tryz.prog 160 [a4n c l, a4n c' l'] (.pv (.bool (decide (l = l')))) := by
 refine pX Tryz.f160 [.pv (.bool (decide (l = l')))] 0 ?_
 refine u9u 0 rfl fun hlen => ?_
 refine dc 9 (fun K K' => aI ?_ ?_)<;>intro o<;>try simp at o
 ·refine dv 3 ?_
  refine x3x rfl ?_ rfl
  exact f2i (by omega)
 refine dv 5 fun K K' => ?_
 refine x5x (ι := Nat) (fun i γ1 => [(5, pI (i : Int))]) (fun i γ1 => []) (fun i => i ≤ l.length ∧ l.length = l'.length ∧ l.take i = l'.take i) (fun i => l.length - i) (q3q [0, 1] rfl) HE.nil 0 ⟨by omega, by omega, rfl⟩ [] x6x x4x rfl fun i γ1 hi => ?_
 obtain ⟨h1, h2, h3⟩ := hi
 refine dc 6 (fun K K' => aS ?_ ?_)<;>intro o<;>try simp at o
 ·refine dv 4 ?_
  refine x3x rfl ?_ rfl
  exact eqT h3 (by omega) (by omega)
 refine dv 6 fun K K' => ?_
 obtain ⟨x, hx⟩ := gE l i
 refine dv 4 ?_
 obtain ⟨y, hy⟩ := gE l' i
 refine dc 3 (aS ?_ ?_)<;>intro o<;>try simp at o
 ·refine dv 3 ?_
  refine r1r (.int .i64 ((i + 1 : Nat) : Int)) rfl rfl rfl (a6o rfl (by omega) (by omega) (by have := hlen; omega)) ?_
  refine dv 1 ?_
  exact ⟨i + 1, ⟨⟨by omega, h2, a7v h3 hx hy (by assumption)⟩, by omega⟩, [], x6x, x6x, x4x, x4x, rfl⟩
 refine dv 3 ?_
 refine x3x rfl ?_ rfl
 exact d9x hx hy (by assumption)
theorem a6i (c c' : Bool) (l l' : List Ev) : a0t Tryz.prog 28 [s1s c l, s1s c' l'] (.pv (.bool (decide (l = l')))) := by
 refine pX Tryz.f28 [.pv (.bool (decide (l = l')))] 0 ?_
 refine u9u 0 rfl fun hlen => ?_
 refine dc 9 (fun K K' => aI ?_ ?_)<;>intro o<;>try simp at o
 ·refine dv 3 ?_
  refine x3x rfl ?_ rfl
  exact f2i (by omega)
 refine dv 5 fun K K' => ?_
 refine x5x (ι := Nat) (fun i γ1 => [(5, pI (i : Int))]) (fun i γ1 => []) (fun i => i ≤ l.length ∧ l.length = l'.length ∧ l.take i = l'.take i) (fun i => l.length - i) (q3q [0, 1] rfl) HE.nil 0 ⟨by omega, by omega, rfl⟩ [] x6x x4x rfl fun i γ1 hi => ?_
 obtain ⟨h1, h2, h3⟩ := hi
 refine dc 6 (fun K K' => aS ?_ ?_)<;>intro o<;>try simp at o
 ·refine dv 4 ?_
  refine x3x rfl ?_ rfl
  exact eqT h3 (by omega) (by omega)
 refine dv 6 fun K K' => ?_
 obtain ⟨x, hx⟩ := gE l i
 refine dv 4 ?_
 obtain ⟨y, hy⟩ := gE l' i
 refine dv 2 ?_
 refine a9b rfl rfl (by intro a c h; cases h) (.inr rfl) (e9w _ _ _ _) ?_
 refine dc 0 (aS ?_ ?_)<;>intro o<;>try simp at o
 ·refine dv 3 ?_
  refine r1r (.int .i64 ((i + 1 : Nat) : Int)) rfl rfl rfl (a6o rfl (by omega) (by omega) (by have := hlen; omega)) ?_
  refine dv 1 ?_
  exact ⟨i + 1, ⟨⟨by omega, h2, a7v h3 hx hy (by assumption)⟩, by omega⟩, [], x6x, x6x, x4x, x4x, rfl⟩
 refine dv 3 ?_
 refine x3x rfl ?_ rfl
 exact d9x hx hy (by assumption)
theorem b3k (c c' : Bool) (l l' : List Ou) : a0t Tryz.prog 29 [q7q c l, q7q c' l'] (.pv (.bool (decide (l = l')))) := by
 refine pX Tryz.f29 [.pv (.bool (decide (l = l')))] 0 ?_
 refine u9u 0 rfl fun hlen => ?_
 refine dc 9 (fun K K' => aI ?_ ?_)<;>intro o<;>try simp at o
 ·refine dv 3 ?_
  refine x3x rfl ?_ rfl
  exact f2i (by omega)
 refine dv 5 fun K K' => ?_
 refine x5x (ι := Nat) (fun i γ1 => [(5, pI (i : Int))]) (fun i γ1 => []) (fun i => i ≤ l.length ∧ l.length = l'.length ∧ l.take i = l'.take i) (fun i => l.length - i) (q3q [0, 1] rfl) HE.nil 0 ⟨by omega, by omega, rfl⟩ [] x6x x4x rfl fun i γ1 hi => ?_
 obtain ⟨h1, h2, h3⟩ := hi
 refine dc 6 (fun K K' => aS ?_ ?_)<;>intro o<;>try simp at o
 ·refine dv 4 ?_
  refine x3x rfl ?_ rfl
  exact eqT h3 (by omega) (by omega)
 refine dv 6 fun K K' => ?_
 obtain ⟨x, hx⟩ := gE l i
 refine dv 4 ?_
 obtain ⟨y, hy⟩ := gE l' i
 refine dv 2 ?_
 refine a9b rfl rfl (by intro a c h; cases h) (.inr rfl) (f9g _ _ _ _) ?_
 refine dc 0 (aS ?_ ?_)<;>intro o<;>try simp at o
 ·refine dv 3 ?_
  refine r1r (.int .i64 ((i + 1 : Nat) : Int)) rfl rfl rfl (a6o rfl (by omega) (by omega) (by have := hlen; omega)) ?_
  refine dv 1 ?_
  exact ⟨i + 1, ⟨⟨by omega, h2, a7v h3 hx hy (by assumption)⟩, by omega⟩, [], x6x, x6x, x4x, x4x, rfl⟩
 refine dv 3 ?_
 refine x3x rfl ?_ rfl
 exact d9x hx hy (by assumption)
theorem b6l (c c' : Bool) (l l' : List Pa) : a0t Tryz.prog 33 [a7g c l, a7g c' l'] (.pv (.bool (decide (l = l')))) := by
 refine pX Tryz.f33 [.pv (.bool (decide (l = l')))] 0 ?_
 refine u9u 0 rfl fun hlen => ?_
 refine dc 9 (fun K K' => aI ?_ ?_)<;>intro o<;>try simp at o
 ·refine dv 3 ?_
  refine x3x rfl ?_ rfl
  exact f2i (by omega)
 refine dv 5 fun K K' => ?_
 refine x5x (ι := Nat) (fun i γ1 => [(5, pI (i : Int))]) (fun i γ1 => []) (fun i => i ≤ l.length ∧ l.length = l'.length ∧ l.take i = l'.take i) (fun i => l.length - i) (q3q [0, 1] rfl) HE.nil 0 ⟨by omega, by omega, rfl⟩ [] x6x x4x rfl fun i γ1 hi => ?_
 obtain ⟨h1, h2, h3⟩ := hi
 refine dc 6 (fun K K' => aS ?_ ?_)<;>intro o<;>try simp at o
 ·refine dv 4 ?_
  refine x3x rfl ?_ rfl
  exact eqT h3 (by omega) (by omega)
 refine dv 6 fun K K' => ?_
 obtain ⟨x, hx⟩ := gE l i
 refine dv 2 ?_
 refine u8u (out := .agg (y8y x.ev)) rfl z2z rfl ?_
 refine dv 2 ?_
 obtain ⟨y, hy⟩ := gE l' i
 refine dv 2 ?_
 refine u8u (out := .agg (y8y y.ev)) rfl z2z rfl ?_
 refine a9b rfl rfl (by intro a c h; cases h) (.inr rfl) (e9w _ _ _ _) ?_
 refine dc 1 (aS ?_ ?_)<;>intro o<;>try simp at o
 ·refine dv 43 ?_
  refine x3x rfl ?_ rfl
  repeat clear K' K
  exact d9x hx hy (by (intro e; subst e; simp_all))
 refine dv 4 ?_
 refine u8u (out := .agg (q8q x.after)) rfl a2x rfl ?_
 refine dv 4 ?_
 refine u8u (out := .agg (q8q y.after)) rfl a2x rfl ?_
 refine dv 0 ?_
 refine a9b rfl rfl (by intro a c h; cases h) (.inr rfl) (f6p _ _ _ _) ?_
 refine dc 2 (aS ?_ ?_)<;>intro o<;>try simp at o
 ·refine dv 30 ?_
  refine x3x rfl ?_ rfl
  repeat clear K' K
  exact d9x hx hy (by (intro e; subst e; simp_all))
 refine dv 10 ?_
 refine x0x rfl rfl rfl (a6i ..) (dc 3 (aS ?_ ?_))<;>intro o<;>try simp at o
 ·refine dv 16 ?_
  refine x3x rfl ?_ rfl
  repeat clear K' K
  exact d9x hx hy (by (intro e; subst e; simp_all))
 refine dv 10 ?_
 refine x0x rfl rfl rfl (b3k ..) (dc 2 (aS ?_ ?_))<;>intro o<;>try simp at o
 ·refine dv 3 ?_
  refine r1r (.int .i64 ((i + 1 : Nat) : Int)) rfl rfl rfl (a6o rfl (by omega) (by omega) (by have := hlen; omega)) ?_
  refine dv 1 ?_
  repeat clear K' K
  exact ⟨i + 1, ⟨⟨by omega, h2, a7v h3 hx hy (by (cases x; cases y; simp_all))⟩, by omega⟩, [], x6x, x6x, x4x, x4x, rfl⟩
 refine dv 3 ?_
 refine x3x rfl ?_ rfl
 repeat clear K' K
 exact d9x hx hy (by (intro e; subst e; simp_all))
theorem c6u (c c' : Bool) (l l' : List Vi) : a0t Tryz.prog 65 [c1r c l, c1r c' l'] (.pv (.bool (decide (l = l')))) := by
 refine pX Tryz.f65 [.pv (.bool (decide (l = l')))] 0 ?_
 refine u9u 0 rfl fun hlen => ?_
 refine dc 9 (fun K K' => aI ?_ ?_)<;>intro o<;>try simp at o
 ·refine dv 3 ?_
  refine x3x rfl ?_ rfl
  exact f2i (by omega)
 refine dv 5 fun K K' => ?_
 refine x5x (ι := Nat) (fun i γ1 => [(5, pI (i : Int))]) (fun i γ1 => []) (fun i => i ≤ l.length ∧ l.length = l'.length ∧ l.take i = l'.take i) (fun i => l.length - i) (q3q [0, 1] rfl) HE.nil 0 ⟨by omega, by omega, rfl⟩ [] x6x x4x rfl fun i γ1 hi => ?_
 obtain ⟨h1, h2, h3⟩ := hi
 refine dc 6 (fun K K' => aS ?_ ?_)<;>intro o<;>try simp at o
 ·refine dv 4 ?_
  refine x3x rfl ?_ rfl
  exact eqT h3 (by omega) (by omega)
 refine dv 6 fun K K' => ?_
 obtain ⟨x, hx⟩ := gE l i
 refine dv 5 ?_
 obtain ⟨y, hy⟩ := gE l' i
 refine dc 5 (aS ?_ ?_)<;>intro o<;>try simp at o
 ·refine dv 29 ?_
  refine x3x rfl ?_ rfl
  repeat clear K' K
  exact d9x hx hy (by (intro e; subst e; simp_all))
 refine dc 13 (aS ?_ ?_)<;>intro o<;>try simp at o
 ·refine dv 16 ?_
  refine x3x rfl ?_ rfl
  repeat clear K' K
  exact d9x hx hy (by (intro e; subst e; simp_all))
 refine dv 10 ?_
 refine x0x rfl rfl rfl (a6i ..) (dc 2 (aS ?_ ?_))<;>intro o<;>try simp at o
 ·refine dv 3 ?_
  refine r1r (.int .i64 ((i + 1 : Nat) : Int)) rfl rfl rfl (a6o rfl (by omega) (by omega) (by have := hlen; omega)) ?_
  refine dv 1 ?_
  repeat clear K' K
  exact ⟨i + 1, ⟨⟨by omega, h2, a7v h3 hx hy (by (cases x; cases y; simp_all))⟩, by omega⟩, [], x6x, x6x, x4x, x4x, rfl⟩
 refine dv 3 ?_
 refine x3x rfl ?_ rfl
 repeat clear K' K
 exact d9x hx hy (by (intro e; subst e; simp_all))
theorem d0p (c c' : Bool) (a b : La) : a0t Tryz.prog 27 [.agg (q1q c a), .agg (q1q c' b)] (.pv (.bool (decide (a = b)))) := by
 refine pX Tryz.f27 [.pv (.bool (decide (a = b)))] 2 ?_
 refine dv 1 ?_
 refine x8x (id := 0) rfl rfl rfl (x8x (id := 1) rfl rfl rfl (dc 8 (aS ?_ ?_)))<;>intro o<;>try simp at o
 ·refine dv 14 ?_
  refine x3x rfl ?_ rfl
  cases a; cases b; simp_all [a2c]
 refine dv 1 ?_
 refine y9y (out := .agg (q8q a.base)) rfl a2x rfl rfl ?_
 refine dv 1 ?_
 refine y9y (out := .agg (q8q b.base)) rfl a2x rfl rfl ?_
 refine dv 0 ?_
 refine a9b rfl rfl (by intro a c h; cases h) (.inl rfl) (f6p _ _ _ _) ?_
 refine dc 2 (aS ?_ ?_)<;>intro o<;>try simp at o
 ·refine dv 7 ?_
  refine x3x rfl ?_ rfl
  cases a; cases b; simp_all [a2c]
 refine dv 4 ?_
 refine x0x rfl rfl rfl (b6l ..) (dv 3 ?_)
 refine x3x rfl ?_ rfl
 cases a; cases b; simp_all [a2c]
theorem d0q (c c' : Bool) (a b : Nd) : a0t Tryz.prog 64 [.agg (u2u c a), .agg (u2u c' b)] (.pv (.bool (decide (a.lanes = b.lanes)))) := by
 refine pX Tryz.f64 [.pv (.bool (decide (a.lanes = b.lanes)))] 2 ?_
 refine dv 1 ?_
 refine x8x (id := 0) rfl rfl rfl (x8x (id := 1) rfl rfl rfl (dc 10 (fun K K' => aI ?_ ?_)))<;>intro o<;>try simp at o
 ·refine dv 3 ?_
  refine x3x rfl ?_ rfl
  exact f2i (by omega)
 refine dv 5 fun K K' => ?_
 refine u9u 7 rfl fun hlen => ?_
 refine x5x (ι := Nat) (fun i γ1 => [(5, pI (i : Int))]) (fun i γ1 => []) (fun i => i ≤ a.lanes.length ∧ a.lanes.length = b.lanes.length ∧ a.lanes.take i = b.lanes.take i) (fun i => a.lanes.length - i) (q3q [2, 3] rfl) (a0j [0, 1] rfl) 0 ⟨by omega, by omega, rfl⟩ [] x6x x4x rfl fun i γ1 hi => ?_
 obtain ⟨h1, h2, h3⟩ := hi
 refine dc 7 (fun K K' => aS ?_ ?_)<;>intro o<;>try simp at o
 ·refine dv 4 ?_
  refine x3x rfl ?_ rfl
  exact eqT h3 (by omega) (by omega)
 refine dv 7 fun K K' => ?_
 obtain ⟨x, hx⟩ := gE a.lanes i
 refine dv 5 ?_
 obtain ⟨y, hy⟩ := gE b.lanes i
 refine dv 2 ?_
 refine x0x rfl rfl rfl (d0p ..) (dc 1 (aS ?_ ?_))<;>intro o<;>try simp at o
 ·refine dv 3 ?_
  refine r1r (.int .i64 ((i + 1 : Nat) : Int)) rfl rfl rfl (a6o rfl (by omega) (by omega) (by have := hlen; omega)) ?_
  refine dv 1 ?_
  exact ⟨i + 1, ⟨⟨by omega, h2, a7v h3 hx hy (by assumption)⟩, by omega⟩, [], x6x, x6x, x4x, x4x, rfl⟩
 refine dv 3 ?_
 refine x3x rfl ?_ rfl
 exact d9x hx hy (by assumption)
theorem d0r (c c' : Bool) (a b : Nd) : a0t Tryz.prog 59 [.agg (u2u c a), .agg (u2u c' b)] (.pv (.bool (decide (b2t a b)))) := by
 refine pX Tryz.f59 [.pv (.bool (decide (b2t a b)))] 2 ?_
 refine dv 1 ?_
 refine x8x (id := 0) rfl rfl rfl (x8x (id := 1) rfl rfl rfl (dc 9 (fun K K' => aS ?_ ?_)))<;>intro o<;>try simp at o
 ·refine dv 48 ?_
  refine x3x rfl ?_ rfl
  repeat clear K' K
  exact kF (by intro h; have h7 := congrArg List.length h.2.2.2.2.2.2; simp only [s3s] at h7; (simp_all [b2t]; done))
 refine dc 7 (aS ?_ ?_)<;>intro o<;>try simp at o
 ·refine dv 41 ?_
  refine x3x rfl ?_ rfl
  repeat clear K' K
  exact kF (by intro h; have h7 := congrArg List.length h.2.2.2.2.2.2; simp only [s3s] at h7; (simp_all [b2t]; done))
 refine dc 7 (aS ?_ ?_)<;>intro o<;>try simp at o
 ·refine dv 34 ?_
  refine x3x rfl ?_ rfl
  repeat clear K' K
  exact kF (by intro h; have h7 := congrArg List.length h.2.2.2.2.2.2; simp only [s3s] at h7; (simp_all [b2t]; done))
 refine dc 7 (aS ?_ ?_)<;>intro o<;>try simp at o
 ·refine dv 27 ?_
  refine x3x rfl ?_ rfl
  repeat clear K' K
  exact kF (by intro h; have h7 := congrArg List.length h.2.2.2.2.2.2; simp only [s3s] at h7; (simp_all [b2t]; done))
 refine dv 4 ?_
 refine x0x rfl rfl rfl (a6i ..) (dc 3 (aS ?_ ?_))<;>intro o<;>try simp at o
 ·refine dv 19 ?_
  refine x3x rfl ?_ rfl
  repeat clear K' K
  exact kF (by intro h; have h7 := congrArg List.length h.2.2.2.2.2.2; simp only [s3s] at h7; (simp_all [b2t]; done))
 refine dv 4 ?_
 refine x0x rfl rfl rfl (b3k ..) (dc 3 (aS ?_ ?_))<;>intro o<;>try simp at o
 ·refine dv 11 ?_
  refine x3x rfl ?_ rfl
  repeat clear K' K
  exact kF (by intro h; have h7 := congrArg List.length h.2.2.2.2.2.2; simp only [s3s] at h7; (simp_all [b2t]; done))
 refine dc 8 (aI ?_ ?_)<;>intro o<;>try simp at o
 ·refine dv 3 ?_
  refine x3x rfl ?_ rfl
  exact kF (by intro h; have h7 := congrArg List.length h.2.2.2.2.2.2; simp only [s3s] at h7; omega)
 refine dv 5 fun K K' => ?_
 refine u9u 50 rfl fun hlen => ?_
 refine x5x (ι := Nat) (fun i γ1 => [(5, pI (i : Int))]) (fun i γ1 => []) (fun i => i ≤ a.lanes.length ∧ a.lanes.length = b.lanes.length ∧ (a.lanes.map bp).take i = (b.lanes.map bp).take i) (fun i => a.lanes.length - i) (q3q [2, 3] rfl) (a0j [0, 1] rfl) 0 ⟨by omega, by omega, rfl⟩ [] x6x x4x rfl fun i γ1 hi => ?_
 obtain ⟨h1, h2, h3⟩ := hi
 refine dc 7 (fun K K' => aS ?_ ?_)<;>intro o<;>try simp at o
 ·refine dv 4 ?_
  refine x3x rfl ?_ rfl
  repeat clear K' K
  exact kT (by rw [List.take_of_length_le (by simp; omega), List.take_of_length_le (by simp; omega)] at h3; simp_all [b2t])
 refine dv 7 fun K K' => ?_
 obtain ⟨x, hx⟩ := gE a.lanes i
 refine dv 2 ?_
 refine u8u (out := .agg (q8q x.base)) rfl a2x rfl ?_
 refine dv 3 ?_
 obtain ⟨y, hy⟩ := gE b.lanes i
 refine dv 2 ?_
 refine u8u (out := .agg (q8q y.base)) rfl a2x rfl ?_
 refine a9b rfl rfl (by intro a c h; cases h) (.inr rfl) (f6p _ _ _ _) ?_
 refine dc 1 (aS ?_ ?_)<;>intro o<;>try simp at o
 ·refine dv 17 ?_
  refine x3x rfl ?_ rfl
  repeat clear K' K
  exact kF (by intro h; have := e3y h.2.2.2.2.2.2 hx hy; simp_all [bp])
 refine dc 14 (aS ?_ ?_)<;>intro o<;>try simp at o
 ·refine dv 3 ?_
  refine r1r (.int .i64 ((i + 1 : Nat) : Int)) rfl rfl rfl (a6o rfl (by omega) (by omega) (by have := hlen; omega)) ?_
  refine dv 1 ?_
  repeat clear K' K
  exact ⟨i + 1, ⟨⟨by omega, h2, a7v h3 (c9x hx) (c9x hy) (by simp_all [bp])⟩, by omega⟩, [], x6x, x6x, x4x, x4x, rfl⟩
 refine dv 3 ?_
 refine x3x rfl ?_ rfl
 repeat clear K' K
 exact kF (by intro h; have := e3y h.2.2.2.2.2.2 hx hy; simp_all [bp])
theorem b9n (c c' : Bool) (a b : Nd) : a0t Tryz.prog 56 [.agg (u2u c a), .agg (u2u c' b)] (.pv (.bool (decide (a = b)))) := by
 refine pX Tryz.f56 [.pv (.bool (decide (a = b)))] 2 ?_
 refine dv 1 ?_
 refine x8x (id := 0) rfl rfl rfl (x8x (id := 1) rfl rfl rfl (dv 6 ?_))
 refine a9b rfl rfl (by intro p q h h'; cases h; cases h'; rfl) (.inl rfl) (d6e Tryz.underlying4 _ _ _ _) ?_
 refine dc 1 (aS ?_ ?_)<;>intro o<;>try simp at o
 ·refine dv 45 ?_
  refine x3x rfl ?_ rfl
  repeat clear K' K
  exact kF (by intro h; subst h; simp_all [b2t, a2c])
 refine dv 2 ?_
 refine x0x rfl rfl rfl (d0r ..) (dc 2 (aS ?_ ?_))<;>intro o<;>try simp at o
 ·refine dv 40 ?_
  refine x3x rfl ?_ rfl
  repeat clear K' K
  exact kF (by intro h; subst h; simp_all [b2t, a2c])
 refine dv 2 ?_
 refine x0x rfl rfl rfl (d0q ..) (dc 2 (aS ?_ ?_))<;>intro o<;>try simp at o
 ·refine dv 35 ?_
  refine x3x rfl ?_ rfl
  repeat clear K' K
  exact kF (by intro h; subst h; simp_all [b2t, a2c])
 refine dc 7 (aS ?_ ?_)<;>intro o<;>try simp at o
 ·refine dv 28 ?_
  refine x3x rfl ?_ rfl
  repeat clear K' K
  exact kF (by intro h; subst h; simp_all [b2t, a2c])
 refine dv 4 ?_
 refine x0x rfl rfl rfl (c6u ..) (dc 2 (aS ?_ ?_))<;>intro o<;>try simp at o
 ·refine dv 21 ?_
  refine x3x rfl ?_ rfl
  repeat clear K' K
  exact kF (by intro h; subst h; simp_all [b2t, a2c])
 refine dv 4 ?_
 refine x0x rfl rfl rfl (d0o ..) (dc 2 (aS ?_ ?_))<;>intro o<;>try simp at o
 ·refine dv 14 ?_
  refine x3x rfl ?_ rfl
  repeat clear K' K
  exact kF (by intro h; subst h; simp_all [b2t, a2c])
 refine dc 7 (aS ?_ ?_)<;>intro o<;>try simp at o
 ·refine dv 7 ?_
  refine x3x rfl ?_ rfl
  repeat clear K' K
  exact kF (by intro h; subst h; simp_all [b2t, a2c])
 refine dv 8 ?_
 refine x3x rfl ?_ rfl
 repeat clear K' K
 (cases a; cases b; simp_all [b2t, a2c]; rfl)
end
section
theorem z4z (bs : List Nat) (hbs : ∀ b ∈ bs, b < 256) (S : Sm) (c : Nat) (hS : smOk S c) (ek en ep ew : Int) (eb : Bool) (hc : c ≤ 1000000) : MethE Tryz.prog 239 5 [.ptr 0 0 0, .agg [pI ek, pI en, pI ep, pI ew, .pv (.bool eb)]] [(0, (0, .box 171 [.ptr 4 0 0, pI S.w.time, a5p true S.w.apps, .ref 1 0, .ref 2 0, pI S.w.hub.round, w7w true S.w.hub.ones, w7w true S.w.hub.twos, w7w true S.w.hub.outs, q7q true S.w.sink, .ref 3 0])), (1, (0, .row 65 13 ((S.w.nodes).map (u2u true)))), (2, (0, .row 79 11 ((S.w.radio).map (v8v true)))), (3, (0, .row 263 5 ((S.list).map a4b))), (4, (0, .box 243 [v4v true bs, .pv (.int .i64 ((S.p : Nat) : Int))]))] (ι := Sm × Bool) (fun S' => smOk S'.1 (c + 1)) (fun S' => [0, 4]) (fun S' => .pv (.bool (S'.2))) (fun S' => [(0, (0, .box 171 [.ptr 4 0 0, pI S'.1.w.time, a5p true S'.1.w.apps, .ref 1 0, .ref 2 0, pI S'.1.w.hub.round, w7w true S'.1.w.hub.ones, w7w true S'.1.w.hub.twos, w7w true S'.1.w.hub.outs, q7q true S'.1.w.sink, .ref 3 0])), (1, (0, .row 65 13 ((S'.1.w.nodes).map (u2u true)))), (2, (0, .row 79 11 ((S'.1.w.radio).map (v8v true)))), (3, (0, .row 263 5 ((S'.1.list).map a4b))), (4, (0, .box 243 [v4v true bs, .pv (.int .i64 ((S'.1.p : Nat) : Int))]))]) := by
 refine mE (ι := Sm × Bool) Tryz.f239 (fun S' => [.pv (.bool (S'.2))]) 5 4 fun γ => ?_
 have hll := hS.2.1
 refine dv 1 ?_
 refine x8x (id := 5) rfl rfl rfl (dv 1 ?_)
 refine c9z 5 (b4t p1p 0 5 rfl rfl ?_)
 refine dv 5 ?_
 refine b4t p1p 9 1 rfl rfl ?_
 refine x2x (id := 6) b6x c0f rfl (b4v c3d (by rfl) [1, 2] [_, _] (d3k S.w ek en ep ew eb hS.1) rfl rfl rfl rfl (by decide) rfl rfl f0h (fun _ => (by (simp only [pI, a1z, a2b, b9v, gl, nx, a7c, Nat.beq]; rfl))) (fun _ => (by (simp only [pI, a1z, a2b, b9v, gl, nx, a7c, Nat.beq]; rfl))) (S.w, false) ⟨hS.1, fun _ => rfl⟩ fun j hj => ?_)
 obtain ⟨hj1, hj2⟩ := hj
 refine b4u p1p 6 3 rfl rfl ?_
 refine dv 3 ?_
 refine b4u p1p 10 2 rfl rfl ?_
 refine dv 2 ?_
 refine c1t (by kernel_rfl) ?_
 refine dc 3 (fun K K' => aS ?_ ?_)<;>intro hc2<;>try simp at hc2
 ·have hb : j.2 = false := hc2
  obtain ⟨T, b⟩ := j
  obtain rfl : b = false := hb
  refine dv 5 ?_
  exact ⟨(⟨{ S.w with nodes := T.nodes }, S.list, S.p⟩, false), ⟨f3q hS.1 hj1, Nat.le_succ_of_le hll, Nat.le_succ_of_le hS.2.2⟩, [γ 0, _, γ 2, γ 3, γ 4], rfl, rfl, HE.box rfl rfl (HE.row rfl rfl (HE.row rfl (congrArg (List.map (v8v true)) (hj2 rfl)) (HE.row rfl rfl (HE.box rfl rfl HE.nil))))⟩
 have hb : j.2 = true := hc2
 obtain ⟨T, b⟩ := j
 obtain rfl : b = true := hb
 refine dv 5 ?_
 refine a0u rfl rfl b6x rfl rfl rfl rfl (a0g rfl) rfl ?_
 refine dv 7 ?_
 refine y2y (id := 7) e0s rfl a1y rfl rfl rfl rfl rfl rfl ?_
 refine y7y (zs := (S.list ++ [(⟨ek, en, ep, ew, eb⟩ : Te)]).map a4b) rfl rfl e0s rfl a1y rfl rfl rfl rfl (by rfl) (z7z a4b S.list (⟨ek, en, ep, ew, eb⟩ : Te)) (by (simp only [s3s, r0r, r5r, r8r, a0p, a2m, T263]; omega)) ?_
 refine dv 7 ?_
 exact ⟨(⟨T, S.list ++ [(⟨ek, en, ep, ew, eb⟩ : Te)], S.p⟩, true), ⟨hj1, by show (S.list ++ [_]).length ≤ _; rw [List.length_append]; exact Nat.succ_le_succ hll, Nat.le_succ_of_le hS.2.2⟩, [γ 0, _, _, _, γ 4], rfl, rfl, x4x⟩
end
section
theorem w9w (bs : List Nat) (hbs : ∀ b ∈ bs, b < 256) (S : Sm) (c : Nat) (hS : smOk S c) (m odd : Nat) (hc : c + 4 * m ≤ 1000000) : MethE Tryz.prog 280 5 [.ptr 0 0 0, .pv (.int .i64 (m : Int)), .pv (.int .i64 (odd : Int))] [(0, (0, .box 171 [.ptr 4 0 0, pI S.w.time, a5p true S.w.apps, .ref 1 0, .ref 2 0, pI S.w.hub.round, w7w true S.w.hub.ones, w7w true S.w.hub.twos, w7w true S.w.hub.outs, q7q true S.w.sink, .ref 3 0])), (1, (0, .row 65 13 ((S.w.nodes).map (u2u true)))), (2, (0, .row 79 11 ((S.w.radio).map (v8v true)))), (3, (0, .row 263 5 ((S.list).map a4b))), (4, (0, .box 243 [v4v true bs, .pv (.int .i64 ((S.p : Nat) : Int))]))] (ι := Sm) (fun S' => smOk S' (c + 4 * m)) (fun S' => [0, 4]) (fun S' => .tup []) (fun S' => [(0, (0, .box 171 [.ptr 4 0 0, pI S'.w.time, a5p true S'.w.apps, .ref 1 0, .ref 2 0, pI S'.w.hub.round, w7w true S'.w.hub.ones, w7w true S'.w.hub.twos, w7w true S'.w.hub.outs, q7q true S'.w.sink, .ref 3 0])), (1, (0, .row 65 13 ((S'.w.nodes).map (u2u true)))), (2, (0, .row 79 11 ((S'.w.radio).map (v8v true)))), (3, (0, .row 263 5 ((S'.list).map a4b))), (4, (0, .box 243 [v4v true bs, .pv (.int .i64 ((S'.p : Nat) : Int))]))]) := by
 refine mE (ι := Sm) Tryz.f280 (fun S' => []) 5 1 fun γ => ?_
 refine dv 3 ?_
 refine x5x (ι := Sm × Nat) (fun p γ1 => [(6, pI (p.2 : Int))]) (fun p γ1 => [(1, ((γ1 1), .row 65 13 ((p.1.w.nodes).map (u2u true)))), (2, ((γ1 2), .row 79 11 ((p.1.w.radio).map (v8v true)))), (3, ((γ1 3), .row 263 5 ((p.1.list).map a4b))), (0, ((γ 0), .box 171 [.ptr 4 (γ 4) 0, pI p.1.w.time, a5p true p.1.w.apps, .ref 1 (γ1 1), .ref 2 (γ1 2), pI p.1.w.hub.round, w7w true p.1.w.hub.ones, w7w true p.1.w.hub.twos, w7w true p.1.w.hub.outs, q7q true p.1.w.sink, .ref 3 (γ1 3)])), (4, ((γ 4), .box 243 [v4v true bs, pI ((p.1.p : Nat) : Int)])), (5, ((γ1 5), .dead))]) (fun p => smOk p.1 (c + 4 * p.2) ∧ p.2 ≤ m) (fun p => m - p.2) (q3q [0, 1, 2] rfl) HE.nil (S, 0) ⟨hS, Nat.zero_le _⟩ [0, _, _, _, 0, _] x6x x4x rfl fun p γ1 hi => ?_
 obtain ⟨S1, i⟩ := p
 obtain ⟨h1, h2⟩ := hi
 dsimp only at h1 h2 ⊢
 have hp := h1.2.2
 refine dc 6 (fun K K' => aS ?_ ?_)<;>intro h<;>try simp at h
 ·refine dv 9 ?_
  exact ⟨S1, h1.mono (by omega), [γ 0, _, _, _, γ 4], rfl, rfl, x4x⟩
 refine dv 5 ?_
 refine a3y (n := S1.w.radio.length) rfl r6r rfl rfl (List.length_map _) ?_
 refine dc 2 (aS ?_ ?_)<;>intro h<;>try simp at h
 ·refine dv 1 ?_
  exact ⟨S1, h1.mono (by omega), [γ 0, _, _, _, γ 4], rfl, rfl, x4x⟩
 refine dv 4 fun K K' => ?_
 refine rlB a1y a2v ?_
 refine x2x (id := 5) a1y a2v rfl (dv 1 ?_)
 refine w8w (ι := Nat × Int × Int × Bool) (fun q4 γ2 => []) (fun q4 γ2 => [(4, ((γ 4), .box 243 [v4v true bs, pI ((q4.1 : Nat) : Int)])), (5, ((γ1 5 + 1), .box 263 [pI q4.2.1, pI 0, pI 0, pI q4.2.2.1, .pv (.bool q4.2.2.2)]))]) (fun q4 => q4.1 ≤ c + 4 * i + 3) (q3q [0, 1, 2, 6, 7] rfl) (a0j [0, 1, 2, 3] rfl) ?_ fun q4 γ2 hi => ?_
 ·refine dc 4 (aS ?_ ?_)<;>intro h<;>try simp at h
  ·refine dv 9 ?_
   exact ⟨(S1.p, 4, 0, false), (by show S1.p ≤ c + 4 * i + 3; omega), [], x6x, x6x, x4x, x4x, rfl⟩
  refine dv 5 ?_
  refine rlM [4] [_] (x1x true bs (S1.p) (odd) (by have := hp; omega) hbs) rfl rfl rfl ?_
  refine dc 2 (aS ?_ ?_)<;>intro h<;>try simp at h
  ·refine dv 1 ?_
   exact ⟨(S1.p + 1, 4, 0, false), (by show S1.p + 1 ≤ c + 4 * i + 3; omega), [], x6x, x6x, x4x, x4x, rfl⟩
  refine dv 5 ?_
  refine rlM [4] [_] (x1x true bs (S1.p + 1) (4) (by have := hp; omega) hbs) rfl rfl rfl ?_
  refine dc 4 (aI ?_ ?_)<;>intro h<;>try simp at h
  ·refine dv 3 ?_
   exact ⟨(S1.p + 1 + 1, 5, 0, false), (by show S1.p + 1 + 1 ≤ c + 4 * i + 3; omega), [], x6x, x6x, x4x, x4x, rfl⟩
  refine dc 3 (aI ?_ ?_)<;>intro h<;>try simp at h
  ·refine dv 3 ?_
   exact ⟨(S1.p + 1 + 1, 4, 0, true), (by show S1.p + 1 + 1 ≤ c + 4 * i + 3; omega), [], x6x, x6x, x4x, x4x, rfl⟩
  refine dv 10 ?_
  refine a3y (n := S1.w.radio.length) rfl r6r rfl rfl (List.length_map _) ?_
  refine rlM [4] [_] (x1x true bs (S1.p + 1 + 1) (S1.w.radio.length) (by have := hp; omega) hbs) rfl rfl rfl ?_
  refine dv 2 ?_
  exact ⟨(S1.p + 1 + 1 + 1, 4, (pk bs (S1.p + 1 + 1) S1.w.radio.length : Int), false), (by show S1.p + 1 + 1 + 1 ≤ c + 4 * i + 3; omega), [], x6x, x6x, x4x, x4x, rfl⟩
 ·try dsimp only [a9u, a9v]
  obtain ⟨q, ek, ew, eb⟩ := q4
  dsimp only at hi ⊢
  refine a8m fun B X0 w0 => ?_
  refine txR 2 rfl rfl (dv 2 ?_)
  refine txM [0, 1, 2, 3, 4] [_, _, _, _, _] (z4z bs hbs (pSm S1 q) (c + 4 * i + 3) (a3j h1 (by omega) hi) ek 0 0 ew eb (by omega)) rfl rfl rfl rfl fun J hJ => ?_
  obtain ⟨j, jb⟩ := J
  have hj : smOk j (c + 4 * i + 3 + 1) := hJ
  refine u0u rfl (dv 2 ?_)
  refine x7x (b := 1) rfl rfl (by omega) (dv 1 ?_)
  exact ⟨(j, i + 1), ⟨⟨hj.mono (by show _ ≤ c + 4 * (i + 1); omega), by show i + 1 ≤ m; omega⟩, (by show m - (i + 1) < m - i; omega)⟩, [0, _, _, _, 0, _], x6x, x6x, x4x, x4x, rfl⟩
end
section
theorem a6j (bs : List Nat) (hbs : ∀ b ∈ bs, b < 256) (S : Sm) (c : Nat) (hS : smOk S c) (m : Nat) (hm : m ≤ 1000) (hc : c + (2 + m) ≤ 1000000) : MethE Tryz.prog 134 5 [.ptr 0 0 0, .pv (.int .i64 (m : Int))] [(0, (0, .box 171 [.ptr 4 0 0, pI S.w.time, a5p true S.w.apps, .ref 1 0, .ref 2 0, pI S.w.hub.round, w7w true S.w.hub.ones, w7w true S.w.hub.twos, w7w true S.w.hub.outs, q7q true S.w.sink, .ref 3 0])), (1, (0, .row 65 13 ((S.w.nodes).map (u2u true)))), (2, (0, .row 79 11 ((S.w.radio).map (v8v true)))), (3, (0, .row 263 5 ((S.list).map a4b))), (4, (0, .box 243 [v4v true bs, .pv (.int .i64 ((S.p : Nat) : Int))]))] (ι := Sm) (fun S' => smOk S' (c + (2 + m))) (fun S' => [0, 4]) (fun S' => .tup []) (fun S' => [(0, (0, .box 171 [.ptr 4 0 0, pI S'.w.time, a5p true S'.w.apps, .ref 1 0, .ref 2 0, pI S'.w.hub.round, w7w true S'.w.hub.ones, w7w true S'.w.hub.twos, w7w true S'.w.hub.outs, q7q true S'.w.sink, .ref 3 0])), (1, (0, .row 65 13 ((S'.w.nodes).map (u2u true)))), (2, (0, .row 79 11 ((S'.w.radio).map (v8v true)))), (3, (0, .row 263 5 ((S'.list).map a4b))), (4, (0, .box 243 [v4v true bs, .pv (.int .i64 ((S'.p : Nat) : Int))]))]) := by
 refine mE (ι := Sm) Tryz.f134 (fun S' => []) 5 0 fun γ => ?_
 have hp := hS.2.2
 refine dv 5 ?_
 refine rlM [4] [_] (x1x true bs (S.p) (4) (by have := hp; omega) hbs) rfl rfl rfl ?_
 refine dv 1 ?_
 obtain ⟨Pr, ePr, hPr⟩ : ∃ Pr, pk bs S.p 4 = Pr ∧ Pr ≤ 4 := ⟨_, rfl, b2e _ _ _⟩
 rw [ePr]
 refine dv 6 ?_
 refine rlM [4] [_] (x1x true bs (S.p + 1) (m) (by have := hp; omega) hbs) rfl rfl rfl ?_
 refine dv 1 ?_
 obtain ⟨N, eN, hN⟩ : ∃ N, pk bs (S.p + 1) m = N ∧ N ≤ m := ⟨_, rfl, b2e _ _ _⟩
 rw [eN]
 refine dv 1 ?_
 refine x5x (ι := Sm × Nat) (fun p γ1 => [(5, pI (p.2 : Int))]) (fun p γ1 => [(1, ((γ1 1), .row 65 13 ((p.1.w.nodes).map (u2u true)))), (2, ((γ1 2), .row 79 11 ((p.1.w.radio).map (v8v true)))), (3, ((γ1 3), .row 263 5 ((p.1.list).map a4b))), (0, ((γ 0), .box 171 [.ptr 4 (γ 4) 0, pI p.1.w.time, a5p true p.1.w.apps, .ref 1 (γ1 1), .ref 2 (γ1 2), pI p.1.w.hub.round, w7w true p.1.w.hub.ones, w7w true p.1.w.hub.twos, w7w true p.1.w.hub.outs, q7q true p.1.w.sink, .ref 3 (γ1 3)])), (4, ((γ 4), .box 243 [v4v true bs, pI ((p.1.p : Nat) : Int)]))]) (fun p => smOk p.1 (c + 2 + (N - p.2)) ∧ p.2 ≤ N) (fun p => p.2) (q3q [0, 4] rfl) HE.nil (pSm S (S.p + 1 + 1), N) ⟨a3j hS (by show _ ≤ c + 2 + (N - N); omega) (by show _ ≤ c + 2 + (N - N); omega), Nat.le_refl _⟩ [0, _, _, _] x6x x4x rfl fun p γ1 hi => ?_
 obtain ⟨S1, i⟩ := p
 obtain ⟨h1, h2⟩ := hi
 dsimp only at h1 h2 ⊢
 refine dc 4 (fun K K' => aS ?_ ?_)<;>intro h<;>try simp at h
 ·refine dv 1 ?_
  exact ⟨S1, h1.mono (by omega), [γ 0, _, _, _, γ 4], rfl, rfl, x4x⟩
 obtain ⟨i', rfl⟩ : ∃ i', i = i' + 1 := ⟨i - 1, by omega⟩
 refine dv 3 fun K K' => ?_
 refine a8m fun B X0 w0 => ?_
 refine txR 5 rfl rfl (dv 2 ?_)
 refine x0x rfl rfl rfl (a0s ..) (dv 1 ?_)
 refine rlB a1y a2v ?_
 refine txM [0, 1, 2, 3, 4] [_, _, _, _, _] (z4z bs hbs S1 (c + 2 + (N - (i' + 1))) (h1.mono (by omega)) 1 (a0h Pr) Pr 0 false (by omega)) rfl rfl rfl rfl fun J hJ => ?_
 obtain ⟨j, jb⟩ := J
 have hj : smOk j (c + 2 + (N - (i' + 1)) + 1) := hJ
 refine u0u rfl (dv 2 ?_)
 refine w6w (b := 1) rfl rfl (by omega) (by omega) (dv 1 ?_)
 exact ⟨(j, i'), ⟨⟨hj.mono (by show _ ≤ c + 2 + (N - i'); omega), by show i' ≤ N; omega⟩, (by show i' < i' + 1; omega)⟩, [0, _, _, _], x6x, x6x, x4x, x4x, rfl⟩
end
section
theorem a1j (bs : List Nat) (hbs : ∀ b ∈ bs, b < 256) (S : Sm) (c : Nat) (hS : smOk S c) (m odd : Nat) (hc : c + 195 * m ≤ 1000000) : MethE Tryz.prog 249 5 [.ptr 0 0 0, .pv (.int .i64 (m : Int)), .pv (.int .i64 (odd : Int))] [(0, (0, .box 171 [.ptr 4 0 0, pI S.w.time, a5p true S.w.apps, .ref 1 0, .ref 2 0, pI S.w.hub.round, w7w true S.w.hub.ones, w7w true S.w.hub.twos, w7w true S.w.hub.outs, q7q true S.w.sink, .ref 3 0])), (1, (0, .row 65 13 ((S.w.nodes).map (u2u true)))), (2, (0, .row 79 11 ((S.w.radio).map (v8v true)))), (3, (0, .row 263 5 ((S.list).map a4b))), (4, (0, .box 243 [v4v true bs, .pv (.int .i64 ((S.p : Nat) : Int))]))] (ι := Sm) (fun S' => smOk S' (c + 195 * m)) (fun S' => [0, 4]) (fun S' => .tup []) (fun S' => [(0, (0, .box 171 [.ptr 4 0 0, pI S'.w.time, a5p true S'.w.apps, .ref 1 0, .ref 2 0, pI S'.w.hub.round, w7w true S'.w.hub.ones, w7w true S'.w.hub.twos, w7w true S'.w.hub.outs, q7q true S'.w.sink, .ref 3 0])), (1, (0, .row 65 13 ((S'.w.nodes).map (u2u true)))), (2, (0, .row 79 11 ((S'.w.radio).map (v8v true)))), (3, (0, .row 263 5 ((S'.list).map a4b))), (4, (0, .box 243 [v4v true bs, .pv (.int .i64 ((S'.p : Nat) : Int))]))]) := by
 refine mE (ι := Sm) Tryz.f249 (fun S' => []) 5 0 fun γ => ?_
 refine dv 3 ?_
 refine x5x (ι := Sm × Nat) (fun p γ1 => [(6, pI (p.2 : Int))]) (fun p γ1 => [(1, ((γ1 1), .row 65 13 ((p.1.w.nodes).map (u2u true)))), (2, ((γ1 2), .row 79 11 ((p.1.w.radio).map (v8v true)))), (3, ((γ1 3), .row 263 5 ((p.1.list).map a4b))), (0, ((γ 0), .box 171 [.ptr 4 (γ 4) 0, pI p.1.w.time, a5p true p.1.w.apps, .ref 1 (γ1 1), .ref 2 (γ1 2), pI p.1.w.hub.round, w7w true p.1.w.hub.ones, w7w true p.1.w.hub.twos, w7w true p.1.w.hub.outs, q7q true p.1.w.sink, .ref 3 (γ1 3)])), (4, ((γ 4), .box 243 [v4v true bs, pI ((p.1.p : Nat) : Int)]))]) (fun p => smOk p.1 (c + 195 * p.2) ∧ p.2 ≤ m) (fun p => m - p.2) (q3q [0, 1, 2] rfl) HE.nil (S, 0) ⟨hS, Nat.zero_le _⟩ [0, _, _, _] x6x x4x rfl fun p γ1 hi => ?_
 obtain ⟨S1, k⟩ := p
 obtain ⟨h1, h2⟩ := hi
 dsimp only at h1 h2 ⊢
 refine dc 5 (fun K K' => aS ?_ ?_)<;>intro h<;>try simp at h
 ·refine dv 1 ?_
  exact ⟨S1, h1.mono (by omega), [γ 0, _, _, _, γ 4], rfl, rfl, x4x⟩
 refine dv 7 fun K K' K K' => ?_
 refine x5x (ι := Sm × Nat) (fun p γ2 => [(7, pI (p.2 : Int))]) (fun p γ2 => [(1, ((γ2 1), .row 65 13 ((p.1.w.nodes).map (u2u true)))), (2, ((γ2 2), .row 79 11 ((p.1.w.radio).map (v8v true)))), (3, ((γ2 3), .row 263 5 ((p.1.list).map a4b))), (0, ((γ 0), .box 171 [.ptr 4 (γ 4) 0, pI p.1.w.time, a5p true p.1.w.apps, .ref 1 (γ2 1), .ref 2 (γ2 2), pI p.1.w.hub.round, w7w true p.1.w.hub.ones, w7w true p.1.w.hub.twos, w7w true p.1.w.hub.outs, q7q true p.1.w.sink, .ref 3 (γ2 3)])), (4, ((γ 4), .box 243 [v4v true bs, pI ((p.1.p : Nat) : Int)]))]) (fun p => smOk p.1 (c + 195 * k + (30 * p.2)) ∧ p.2 ≤ 4) (fun p => 4 - p.2) (q3q [0, 1, 2, 6] rfl) HE.nil (S1, 0) ⟨h1, Nat.zero_le _⟩ [0, _, _, _] x6x x4x rfl fun p γ2 hi => ?_
 obtain ⟨S2, i⟩ := p
 obtain ⟨j1, j2⟩ := hi
 dsimp only at j1 j2 ⊢
 refine dc 4 (fun K K' => aS ?_ ?_)<;>intro h<;>try simp at h
 ·refine dv 4 ?_
  refine x5x (ι := Sm × Nat) (fun p γ5 => [(9, pI (p.2 : Int))]) (fun p γ5 => [(1, ((γ5 1), .row 65 13 ((p.1.w.nodes).map (u2u true)))), (2, ((γ5 2), .row 79 11 ((p.1.w.radio).map (v8v true)))), (3, ((γ5 3), .row 263 5 ((p.1.list).map a4b))), (0, ((γ 0), .box 171 [.ptr 4 (γ 4) 0, pI p.1.w.time, a5p true p.1.w.apps, .ref 1 (γ5 1), .ref 2 (γ5 2), pI p.1.w.hub.round, w7w true p.1.w.hub.ones, w7w true p.1.w.hub.twos, w7w true p.1.w.hub.outs, q7q true p.1.w.sink, .ref 3 (γ5 3)])), (4, ((γ 4), .box 243 [v4v true bs, pI ((p.1.p : Nat) : Int)]))]) (fun p => smOk p.1 (c + 195 * k + (120 + 25 * p.2)) ∧ p.2 ≤ 3) (fun p => 3 - p.2) (q3q [0, 1, 2, 6] rfl) HE.nil (S2, 0) ⟨j1.mono (by omega), Nat.zero_le _⟩ [0, _, _, _] x6x x4x rfl fun p γ5 hi => ?_
  obtain ⟨S4, q⟩ := p
  obtain ⟨l1, l2⟩ := hi
  dsimp only at l1 l2 ⊢
  refine dc 4 (fun K K' => aS ?_ ?_)<;>intro h<;>try simp at h
  ·refine dv 3 ?_
   refine x7x (b := 1) rfl rfl (by omega) (dv 1 ?_)
   exact ⟨(S4, k + 1), ⟨⟨l1.mono (by show _ ≤ c + 195 * (k + 1); omega), by show k + 1 ≤ m; omega⟩, (by show m - (k + 1) < m - k; omega)⟩, [0, _, _, _], x6x, x6x, x4x, x4x, rfl⟩
  refine dv 3 fun K K' => ?_
  refine a0d fun B X0 w0 => ?_
  refine txR 3 rfl rfl (dv 2 ?_)
  refine rlB a1y a2v ?_
  refine txM [0, 1, 2, 3, 4] [_, _, _, _, _] (z4z bs hbs S4 (c + 195 * k + (120 + 25 * q)) l1 2 q 0 0 false (by omega)) rfl rfl rfl rfl fun J hJ => ?_
  obtain ⟨j, jb⟩ := J
  have hj : smOk j (c + 195 * k + (120 + 25 * q) + 1) := hJ
  refine u0u rfl (a8m fun B X0 w0 => ?_)
  refine txR 2 rfl rfl (dv 2 ?_)
  refine txM [0, 1, 2, 3, 4] [_, _, _, _, _] (w9w bs hbs j (c + 195 * k + (120 + 25 * q) + 1) hj 6 odd (by omega)) rfl rfl rfl rfl fun r hr => ?_
  refine u0u rfl (dv 2 ?_)
  refine x7x (b := 1) rfl rfl (by omega) (dv 1 ?_)
  exact ⟨(r, q + 1), ⟨⟨hr.mono (by show _ ≤ c + 195 * k + (120 + 25 * (q + 1)); omega), by show q + 1 ≤ 3; omega⟩, (by show 3 - (q + 1) < 3 - q; omega)⟩, [0, _, _, _], x6x, x6x, x4x, x4x, rfl⟩
 refine dv 1 ?_
 refine w8w (ι := Sm) (fun T γ3 => []) (fun T γ3 => [(1, ((γ3 1), .row 65 13 ((T.w.nodes).map (u2u true)))), (2, ((γ3 2), .row 79 11 ((T.w.radio).map (v8v true)))), (3, ((γ3 3), .row 263 5 ((T.list).map a4b))), (0, ((γ 0), .box 171 [.ptr 4 (γ 4) 0, pI T.w.time, a5p true T.w.apps, .ref 1 (γ3 1), .ref 2 (γ3 2), pI T.w.hub.round, w7w true T.w.hub.ones, w7w true T.w.hub.twos, w7w true T.w.hub.outs, q7q true T.w.sink, .ref 3 (γ3 3)])), (4, ((γ 4), .box 243 [v4v true bs, pI ((T.p : Nat) : Int)]))]) (fun T => smOk T (c + 195 * k + (30 * i + 30))) (q3q [0, 1, 2, 6, 7] rfl) HE.nil ?_ fun T γ3 hi => ?_
 ·refine dv 4 ?_
  refine x5x (ι := Sm × Nat) (fun p γ4 => [(8, pI (p.2 : Int))]) (fun p γ4 => [(1, ((γ4 1), .row 65 13 ((p.1.w.nodes).map (u2u true)))), (2, ((γ4 2), .row 79 11 ((p.1.w.radio).map (v8v true)))), (3, ((γ4 3), .row 263 5 ((p.1.list).map a4b))), (0, ((γ 0), .box 171 [.ptr 4 (γ 4) 0, pI p.1.w.time, a5p true p.1.w.apps, .ref 1 (γ4 1), .ref 2 (γ4 2), pI p.1.w.hub.round, w7w true p.1.w.hub.ones, w7w true p.1.w.hub.twos, w7w true p.1.w.hub.outs, q7q true p.1.w.sink, .ref 3 (γ4 3)])), (4, ((γ 4), .box 243 [v4v true bs, pI ((p.1.p : Nat) : Int)]))]) (fun p => smOk p.1 (c + 195 * k + (30 * i + p.2)) ∧ p.2 ≤ 30) (fun p => 30 - p.2) (q3q [0, 1, 2, 6, 7] rfl) HE.nil (S2, 0) ⟨j1, Nat.zero_le _⟩ [0, _, _, _] x6x x4x rfl fun p γ4 hi => ?_
  obtain ⟨S3, q⟩ := p
  obtain ⟨k1, k2⟩ := hi
  dsimp only at k1 k2 ⊢
  refine dv 1 fun K K' => ?_
  refine a0d fun B X0 w0 => ?_
  refine txR 3 rfl rfl (dv 3 ?_)
  refine f7r 21 rfl ?_ ?_<;>intro h<;>try simp at h
  rotate_left
  ·refine txR 7 rfl rfl (dv 7 ?_)
   refine u0u rfl (dv 2 ?_)
   exact ⟨S3, (k1.mono (by omega)), [0, _, _, _], x6x, x6x, x4x, x4x, rfl⟩
  refine txR 5 rfl rfl (dv 2 ?_)
  refine x0x rfl rfl rfl (a0s ..) (dv 1 ?_)
  refine rlB a1y a2v ?_
  refine e4n [0, 1, 2, 3, 4] [_, _, _, _, _] (z4z bs hbs S3 (c + 195 * k + (30 * i + q)) k1 1 (a0h i) i 0 false (by omega)) rfl rfl rfl rfl rfl rfl rfl (by decide) rfl rfl f0h (fun _ => (by (simp only [pI, a1z, a2b, b9v, gl, nx, a7c, Nat.beq]; rfl))) (fun _ => (by (simp only [pI, a1z, a2b, b9v, gl, nx, a7c, Nat.beq]; rfl))) fun J hJ => ?_
  obtain ⟨j, jb⟩ := J
  have hj : smOk j (c + 195 * k + (30 * i + q) + 1) := hJ
  refine txR 1 rfl rfl (dv 1 ?_)
  refine u0u rfl (dc 0 (aS ?_ ?_))<;>intro h<;>try simp at h
  ·refine dv 1 ?_
   exact ⟨j, (hj.mono (by omega)), [0, _, _, _], x6x, x6x, x4x, x4x, rfl⟩
  refine dv 6 ?_
  refine x7x (b := 1) rfl rfl (by omega) (dv 1 ?_)
  exact ⟨(j, q + 1), ⟨⟨hj.mono (by show _ ≤ c + 195 * k + (30 * i + (q + 1)); omega), by show q + 1 ≤ 30; omega⟩, (by show 30 - (q + 1) < 30 - q; omega)⟩, [0, _, _, _], x6x, x6x, x4x, x4x, rfl⟩
 ·try dsimp only [a9u, a9v]
  refine dv 2 ?_
  refine x7x (b := 1) rfl rfl (by omega) (dv 1 ?_)
  exact ⟨(T, i + 1), ⟨⟨hi.mono (by show _ ≤ c + 195 * k + 30 * (i + 1); omega), by show i + 1 ≤ 4; omega⟩, (by show 4 - (i + 1) < 4 - i; omega)⟩, [0, _, _, _], x6x, x6x, x4x, x4x, rfl⟩
end
section
theorem c1e (bs : List Nat) (hbs : ∀ b ∈ bs, b < 256) (S : Sm) (c : Nat) (hS : smOk S c)  (hc : c + 960 ≤ 1000000) : MethE Tryz.prog 289 5 [.ptr 0 0 0] [(0, (0, .box 171 [.ptr 4 0 0, pI S.w.time, a5p true S.w.apps, .ref 1 0, .ref 2 0, pI S.w.hub.round, w7w true S.w.hub.ones, w7w true S.w.hub.twos, w7w true S.w.hub.outs, q7q true S.w.sink, .ref 3 0])), (1, (0, .row 65 13 ((S.w.nodes).map (u2u true)))), (2, (0, .row 79 11 ((S.w.radio).map (v8v true)))), (3, (0, .row 263 5 ((S.list).map a4b))), (4, (0, .box 243 [v4v true bs, .pv (.int .i64 ((S.p : Nat) : Int))]))] (ι := Sm) (fun S' => smOk S' (c + 960)) (fun S' => [0, 4]) (fun S' => .tup []) (fun S' => [(0, (0, .box 171 [.ptr 4 0 0, pI S'.w.time, a5p true S'.w.apps, .ref 1 0, .ref 2 0, pI S'.w.hub.round, w7w true S'.w.hub.ones, w7w true S'.w.hub.twos, w7w true S'.w.hub.outs, q7q true S'.w.sink, .ref 3 0])), (1, (0, .row 65 13 ((S'.w.nodes).map (u2u true)))), (2, (0, .row 79 11 ((S'.w.radio).map (v8v true)))), (3, (0, .row 263 5 ((S'.list).map a4b))), (4, (0, .box 243 [v4v true bs, .pv (.int .i64 ((S'.p : Nat) : Int))]))]) := by
 refine mE (ι := Sm) Tryz.f289 (fun S' => []) 5 0 fun γ => ?_
 refine a0d fun B X0 w0 => ?_
 refine txR 7 rfl rfl (dv 5 ?_)
 refine rlM [4] [_] (x1x true bs (S.p) (3) (by have := hS.2.2; omega) hbs) rfl rfl rfl ?_
 obtain ⟨N, eN, hN⟩ : ∃ N, pk bs S.p 3 = N ∧ N ≤ 3 := ⟨_, rfl, b2e _ _ _⟩
 rw [eN]
 refine x7x (a := 1) rfl rfl (by omega) ?_
 refine txM [0, 1, 2, 3, 4] [_, _, _, _, _] (a1j bs hbs (pSm S (S.p + 1)) (c + 1) (a3j hS (by omega) (by have := hS.2.2; omega)) (1 + N) 0 (by omega)) rfl rfl rfl rfl fun a ha => ?_
 have ha2 : smOk a (c + 781) := ha.mono (by omega)
 refine u0u rfl (a0d fun B X0 w0 => ?_)
 refine txR 2 rfl rfl (dv 1 ?_)
 refine rlB a1y a2v ?_
 refine txM [0, 1, 2, 3, 4] [_, _, _, _, _] (z4z bs hbs a (c + 781) ha2 3 0 0 0 false (by omega)) rfl rfl rfl rfl fun J hJ => ?_
 obtain ⟨j, jb⟩ := J
 have hj : smOk j (c + 781 + 1) := hJ
 refine u0u rfl (a0d fun B X0 w0 => ?_)
 refine txR 6 rfl rfl (dv 5 ?_)
 refine rlM [4] [_] (x1x true bs (j.p) (12) (by have := hj.2.2; omega) hbs) rfl rfl rfl ?_
 refine txM [0, 1, 2, 3, 4] [_, _, _, _, _] (w9w bs hbs (pSm j (j.p + 1)) (c + 783) (a3j hj (by omega) (by have := hj.2.2; omega)) (pk bs j.p 12) 0 (by have := b2e bs j.p 12; omega)) rfl rfl rfl rfl fun b hb => ?_
 have hb2 : smOk b (c + 831) := hb.mono (by have := b2e bs j.p 12; omega)
 refine u0u rfl (dv 5 ?_)
 refine rlM [4] [_] (x1x true bs (b.p) (3) (by have := hb2.2.2; omega) hbs) rfl rfl rfl ?_
 refine dv 1 ?_
 obtain ⟨Pr, ePr, hPr⟩ : ∃ Pr, pk bs b.p 3 = Pr ∧ Pr ≤ 3 := ⟨_, rfl, b2e _ _ _⟩
 rw [ePr]
 refine a0d fun B X0 w0 => ?_
 refine txR 3 rfl rfl (dv 2 ?_)
 refine rlB a1y a2v ?_
 refine txM [0, 1, 2, 3, 4] [_, _, _, _, _] (z4z bs hbs (pSm b (b.p + 1)) (c + 832) (a3j hb2 (by omega) (by have := hb2.2.2; omega)) 6 Pr 0 0 false (by omega)) rfl rfl rfl rfl fun J hJ => ?_
 obtain ⟨j, jb⟩ := J
 have hj : smOk j (c + 832 + 1) := hJ
 refine u0u rfl ?_
 refine w8w (ι := Sm) (fun T γ1 => []) (fun T γ1 => [(1, ((γ1 1), .row 65 13 ((T.w.nodes).map (u2u true)))), (2, ((γ1 2), .row 79 11 ((T.w.radio).map (v8v true)))), (3, ((γ1 3), .row 263 5 ((T.list).map a4b))), (0, ((γ 0), .box 171 [.ptr 4 (γ 4) 0, pI T.w.time, a5p true T.w.apps, .ref 1 (γ1 1), .ref 2 (γ1 2), pI T.w.hub.round, w7w true T.w.hub.ones, w7w true T.w.hub.twos, w7w true T.w.hub.outs, q7q true T.w.sink, .ref 3 (γ1 3)])), (4, ((γ 4), .box 243 [v4v true bs, pI ((T.p : Nat) : Int)]))]) (fun T => smOk T (c + 839)) (y0y 0 rfl Cov.nil) HE.nil ?_ fun T γ1 hi => ?_
 ·refine dv 5 ?_
  refine rlM [4] [_] (x1x true bs (j.p) (4) (by have := hj.2.2; omega) hbs) rfl rfl rfl ?_
  refine dc 1 (aS ?_ ?_)<;>intro h<;>try simp at h
  ·refine dv 1 ?_
   exact ⟨(pSm j (j.p + 1)), (a3j hj (by omega) (by have := hj.2.2; omega)), [0, _, _, _], x6x, x6x, x4x, x4x, rfl⟩
  refine a0d fun B X0 w0 => ?_
  refine txR 3 rfl rfl (dv 2 ?_)
  refine rlB a1y a2v ?_
  refine txM [0, 1, 2, 3, 4] [_, _, _, _, _] (z4z bs hbs (pSm j (j.p + 1)) (c + 834) (a3j hj (by omega) (by have := hj.2.2; omega)) 7 Pr 0 0 false (by omega)) rfl rfl rfl rfl fun J hJ => ?_
  obtain ⟨j, jb⟩ := J
  have hj : smOk j (c + 834 + 1) := hJ
  refine u0u rfl (a0d fun B X0 w0 => ?_)
  refine txR 3 rfl rfl (dv 2 ?_)
  refine rlB a1y a2v ?_
  refine txM [0, 1, 2, 3, 4] [_, _, _, _, _] (z4z bs hbs j (c + 834 + 1) hj 2 Pr 0 0 false (by omega)) rfl rfl rfl rfl fun J hJ => ?_
  obtain ⟨j, jb⟩ := J
  have hj : smOk j (c + 834 + 1 + 1) := hJ
  refine u0u rfl (dv 5 ?_)
  refine rlM [4] [_] (x1x true bs (j.p) (2) (by have := hj.2.2; omega) hbs) rfl rfl rfl ?_
  refine dc 1 (aS ?_ ?_)<;>intro h<;>try simp at h
  ·refine dv 1 ?_
   exact ⟨(pSm j (j.p + 1)), (a3j hj (by omega) (by have := hj.2.2; omega)), [0, _, _, _], x6x, x6x, x4x, x4x, rfl⟩
  refine a0d fun B X0 w0 => ?_
  refine txR 9 rfl rfl (dv 6 ?_)
  refine a3y (n := j.w.radio.length) rfl r6r rfl rfl (List.length_map _) ?_
  have hr40 := hj.1.2.2.2.1
  refine r1r (.int .i64 ((j.w.radio.length : Int) - 1)) rfl rfl rfl (a6o rfl (by omega) (by omega) (by omega)) ?_
  refine rlB a1y a2v ?_
  refine txM [0, 1, 2, 3, 4] [_, _, _, _, _] (z4z bs hbs (pSm j (j.p + 1)) (c + 837) (a3j hj (by omega) (by have := hj.2.2; omega)) 4 0 0 ((j.w.radio.length : Int) - 1) false (by omega)) rfl rfl rfl rfl fun J hJ => ?_
  obtain ⟨j, jb⟩ := J
  have hj : smOk j (c + 837 + 1) := hJ
  refine u0u rfl (a8m fun B X0 w0 => ?_)
  refine txR 9 rfl rfl (dv 6 ?_)
  refine a3y (n := j.w.radio.length) rfl r6r rfl rfl (List.length_map _) ?_
  have hr40 := hj.1.2.2.2.1
  refine r1r (.int .i64 ((j.w.radio.length : Int) - 1)) rfl rfl rfl (a6o rfl (by omega) (by omega) (by omega)) ?_
  refine rlB a1y a2v ?_
  refine txM [0, 1, 2, 3, 4] [_, _, _, _, _] (z4z bs hbs j (c + 837 + 1) hj 4 0 0 ((j.w.radio.length : Int) - 1) false (by omega)) rfl rfl rfl rfl fun J hJ => ?_
  obtain ⟨j, jb⟩ := J
  have hj : smOk j (c + 837 + 1 + 1) := hJ
  refine u0u rfl ?_
  exact ⟨j, (hj.mono (by omega)), [0, _, _, _], x6x, x6x, x4x, x4x, rfl⟩
 ·try dsimp only [a9u, a9v]
  refine a8m fun B X0 w0 => ?_
  refine txR 1 rfl rfl (dv 1 ?_)
  refine txM [0, 1, 2, 3, 4] [_, _, _, _, _] (w9w bs hbs T (c + 839) hi 30 6 (by omega)) rfl rfl rfl rfl fun r hr => ?_
  refine u0u rfl ?_
  exact ⟨.inl rfl, r, hr.mono (by omega), [γ 0, _, _, _, γ 4], rfl, rfl, x4x⟩
end
section
theorem a5f (bs : List Nat) (hbs : ∀ b ∈ bs, b < 256) (S : Sm) (c : Nat) (hS : smOk S c) (odd : Nat) (hc : c + 281 ≤ 1000000) : MethE Tryz.prog 215 5 [.ptr 0 0 0, .pv (.int .i64 (odd : Int))] [(0, (0, .box 171 [.ptr 4 0 0, pI S.w.time, a5p true S.w.apps, .ref 1 0, .ref 2 0, pI S.w.hub.round, w7w true S.w.hub.ones, w7w true S.w.hub.twos, w7w true S.w.hub.outs, q7q true S.w.sink, .ref 3 0])), (1, (0, .row 65 13 ((S.w.nodes).map (u2u true)))), (2, (0, .row 79 11 ((S.w.radio).map (v8v true)))), (3, (0, .row 263 5 ((S.list).map a4b))), (4, (0, .box 243 [v4v true bs, .pv (.int .i64 ((S.p : Nat) : Int))]))] (ι := Sm) (fun S' => smOk S' (c + 281)) (fun S' => [0, 4]) (fun S' => .tup []) (fun S' => [(0, (0, .box 171 [.ptr 4 0 0, pI S'.w.time, a5p true S'.w.apps, .ref 1 0, .ref 2 0, pI S'.w.hub.round, w7w true S'.w.hub.ones, w7w true S'.w.hub.twos, w7w true S'.w.hub.outs, q7q true S'.w.sink, .ref 3 0])), (1, (0, .row 65 13 ((S'.w.nodes).map (u2u true)))), (2, (0, .row 79 11 ((S'.w.radio).map (v8v true)))), (3, (0, .row 263 5 ((S'.list).map a4b))), (4, (0, .box 243 [v4v true bs, .pv (.int .i64 ((S'.p : Nat) : Int))]))]) := by
 refine mE (ι := Sm) Tryz.f215 (fun S' => []) 5 0 fun γ => ?_
 refine dv 4 fun K K' => ?_
 refine x5x (ι := Sm × Nat) (fun p γ1 => [(4, pI (p.2 : Int))]) (fun p γ1 => [(1, ((γ1 1), .row 65 13 ((p.1.w.nodes).map (u2u true)))), (2, ((γ1 2), .row 79 11 ((p.1.w.radio).map (v8v true)))), (3, ((γ1 3), .row 263 5 ((p.1.list).map a4b))), (0, ((γ 0), .box 171 [.ptr 4 (γ 4) 0, pI p.1.w.time, a5p true p.1.w.apps, .ref 1 (γ1 1), .ref 2 (γ1 2), pI p.1.w.hub.round, w7w true p.1.w.hub.ones, w7w true p.1.w.hub.twos, w7w true p.1.w.hub.outs, q7q true p.1.w.sink, .ref 3 (γ1 3)])), (4, ((γ 4), .box 243 [v4v true bs, pI ((p.1.p : Nat) : Int)]))]) (fun p => smOk p.1 (c + 7 * p.2) ∧ p.2 ≤ 4) (fun p => 4 - p.2) (q3q [0, 1] rfl) HE.nil (S, 0) ⟨hS, Nat.zero_le _⟩ [0, _, _, _] x6x x4x rfl fun p γ1 hi => ?_
 obtain ⟨S1, k⟩ := p
 obtain ⟨h1, h2⟩ := hi
 dsimp only at h1 h2 ⊢
 have hp := h1.2.2
 refine dc 4 (fun K K' => aI ?_ ?_)<;>intro h<;>try simp at h
 ·refine dv 8 fun K K' => ?_
  refine rlM [4] [_] (x1x true bs (S1.p) (6) (by have := hp; omega) hbs) rfl rfl rfl ?_
  refine dv 1 ?_
  obtain ⟨N, eN, hN⟩ : ∃ N, pk bs S1.p 6 = N ∧ N ≤ 6 := ⟨_, rfl, b2e _ _ _⟩
  rw [eN]
  refine dv 1 ?_
  refine x5x (ι := Sm × Nat) (fun p γ2 => [(5, pI (p.2 : Int))]) (fun p γ2 => [(1, ((γ2 1), .row 65 13 ((p.1.w.nodes).map (u2u true)))), (2, ((γ2 2), .row 79 11 ((p.1.w.radio).map (v8v true)))), (3, ((γ2 3), .row 263 5 ((p.1.list).map a4b))), (0, ((γ 0), .box 171 [.ptr 4 (γ 4) 0, pI p.1.w.time, a5p true p.1.w.apps, .ref 1 (γ2 1), .ref 2 (γ2 2), pI p.1.w.hub.round, w7w true p.1.w.hub.ones, w7w true p.1.w.hub.twos, w7w true p.1.w.hub.outs, q7q true p.1.w.sink, .ref 3 (γ2 3)])), (4, ((γ 4), .box 243 [v4v true bs, pI ((p.1.p : Nat) : Int)]))]) (fun p => smOk p.1 (c + 7 * k + 1 + (N - p.2)) ∧ p.2 ≤ N) (fun p => p.2) (q3q [0, 1, 4] rfl) HE.nil (pSm S1 (S1.p + 1), N) ⟨a3j h1 (by show _ ≤ c + 7 * k + 1 + (N - N); omega) (by show _ ≤ c + 7 * k + 1 + (N - N); omega), Nat.le_refl _⟩ [0, _, _, _] x6x x4x rfl fun p γ2 hi => ?_
  obtain ⟨S2, i⟩ := p
  obtain ⟨j1, j2⟩ := hi
  dsimp only at j1 j2 ⊢
  refine dc 4 (fun K K' => aS ?_ ?_)<;>intro h<;>try simp at h
  ·refine dv 3 ?_
   refine x7x (b := 1) rfl rfl (by omega) (dv 1 ?_)
   exact ⟨(S2, k + 1), ⟨⟨j1.mono (by show _ ≤ c + 7 * (k + 1); omega), by show k + 1 ≤ 4; omega⟩, (by show 4 - (k + 1) < 4 - k; omega)⟩, [0, _, _, _], x6x, x6x, x4x, x4x, rfl⟩
  obtain ⟨i', rfl⟩ : ∃ i', i = i' + 1 := ⟨i - 1, by omega⟩
  refine dv 3 fun K K' => ?_
  refine a8m fun B X0 w0 => ?_
  refine txR 5 rfl rfl (dv 2 ?_)
  refine x0x rfl rfl rfl (a0s ..) (dv 1 ?_)
  refine rlB a1y a2v ?_
  refine txM [0, 1, 2, 3, 4] [_, _, _, _, _] (z4z bs hbs S2 (c + 7 * k + 1 + (N - (i' + 1))) (j1.mono (by omega)) 1 (a0h k) k 0 false (by omega)) rfl rfl rfl rfl fun J hJ => ?_
  obtain ⟨j, jb⟩ := J
  have hj : smOk j (c + 7 * k + 1 + (N - (i' + 1)) + 1) := hJ
  refine u0u rfl (dv 2 ?_)
  refine w6w (b := 1) rfl rfl (by omega) (by omega) (dv 1 ?_)
  exact ⟨(j, i'), ⟨⟨hj.mono (by show _ ≤ c + 7 * k + 1 + (N - i'); omega), by show i' ≤ N; omega⟩, (by show i' < i' + 1; omega)⟩, [0, _, _, _], x6x, x6x, x4x, x4x, rfl⟩
 refine dv 5 fun K K' => ?_
 refine x5x (ι := Sm × Nat) (fun p γ3 => [(6, pI (p.2 : Int))]) (fun p γ3 => [(1, ((γ3 1), .row 65 13 ((p.1.w.nodes).map (u2u true)))), (2, ((γ3 2), .row 79 11 ((p.1.w.radio).map (v8v true)))), (3, ((γ3 3), .row 263 5 ((p.1.list).map a4b))), (0, ((γ 0), .box 171 [.ptr 4 (γ 4) 0, pI p.1.w.time, a5p true p.1.w.apps, .ref 1 (γ3 1), .ref 2 (γ3 2), pI p.1.w.hub.round, w7w true p.1.w.hub.ones, w7w true p.1.w.hub.twos, w7w true p.1.w.hub.outs, q7q true p.1.w.sink, .ref 3 (γ3 3)])), (4, ((γ 4), .box 243 [v4v true bs, pI ((p.1.p : Nat) : Int)]))]) (fun p => smOk p.1 (c + 28 + p.2) ∧ p.2 ≤ 3) (fun p => 3 - p.2) (q3q [0, 1] rfl) HE.nil (S1, 0) ⟨h1.mono (by omega), Nat.zero_le _⟩ [0, _, _, _] x6x x4x rfl fun p γ3 hi => ?_
 obtain ⟨S3, q⟩ := p
 obtain ⟨k1, k2⟩ := hi
 dsimp only at k1 k2 ⊢
 refine dc 4 (fun K K' => aI ?_ ?_)<;>intro h<;>try simp at h
 ·refine dv 3 fun K K' => ?_
  refine a8m fun B X0 w0 => ?_
  refine txR 3 rfl rfl (dv 2 ?_)
  refine rlB a1y a2v ?_
  refine txM [0, 1, 2, 3, 4] [_, _, _, _, _] (z4z bs hbs S3 (c + 28 + q) k1 2 q 0 0 false (by omega)) rfl rfl rfl rfl fun J hJ => ?_
  obtain ⟨j, jb⟩ := J
  have hj : smOk j (c + 28 + q + 1) := hJ
  refine u0u rfl (dv 2 ?_)
  refine x7x (b := 1) rfl rfl (by omega) (dv 1 ?_)
  exact ⟨(j, q + 1), ⟨⟨hj.mono (by show _ ≤ c + 28 + (q + 1); omega), by show q + 1 ≤ 3; omega⟩, (by show 3 - (q + 1) < 3 - q; omega)⟩, [0, _, _, _], x6x, x6x, x4x, x4x, rfl⟩
 refine dv 1 ?_
 refine a0d fun B X0 w0 => ?_
 refine txR 1 rfl rfl (dv 1 ?_)
 refine txM [0, 1, 2, 3, 4] [_, _, _, _, _] (w9w bs hbs S3 (c + 28 + 3) (k1.mono (by omega)) 30 0 (by omega)) rfl rfl rfl rfl fun b hb => ?_
 refine u0u rfl (a0d fun B X0 w0 => ?_)
 refine txR 2 rfl rfl (dv 1 ?_)
 refine rlB a1y a2v ?_
 refine txM [0, 1, 2, 3, 4] [_, _, _, _, _] (z4z bs hbs b (c + 28 + 3 + 4 * 30) hb 3 0 0 0 false (by omega)) rfl rfl rfl rfl fun J hJ => ?_
 obtain ⟨j, jb⟩ := J
 have hj : smOk j (c + 28 + 3 + 4 * 30 + 1) := hJ
 refine u0u rfl (a8m fun B X0 w0 => ?_)
 refine txR 8 rfl rfl (dv 5 ?_)
 refine rlM [4] [_] (x1x true bs (j.p) (30) (by have := hj.2.2; omega) hbs) rfl rfl rfl ?_
 obtain ⟨N, eN, hN⟩ : ∃ N, pk bs j.p 30 = N ∧ N ≤ 30 := ⟨_, rfl, b2e _ _ _⟩
 rw [eN]
 refine x7x (a := 2) rfl rfl (by omega) (dv 1 ?_)
 refine txM [0, 1, 2, 3, 4] [_, _, _, _, _] (w9w bs hbs (pSm j (j.p + 1)) (c + 28 + 3 + 4 * 30 + 1 + 1) (a3j hj (by omega) (by have := hj.2.2; omega)) (2 + N) odd (by omega)) rfl rfl rfl rfl fun r hr => ?_
 refine u0u rfl ?_
 exact ⟨.inl rfl, r, hr.mono (by omega), [γ 0, _, _, _, γ 4], rfl, rfl, x4x⟩
end
section
theorem b9o (bs : List Nat) (hbs : ∀ b ∈ bs, b < 256) (S : Sm) (c : Nat) (hS : smOk S c)  (hc : c + 1030 ≤ 1000000) : MethE Tryz.prog 288 5 [.ptr 0 0 0] [(0, (0, .box 171 [.ptr 4 0 0, pI S.w.time, a5p true S.w.apps, .ref 1 0, .ref 2 0, pI S.w.hub.round, w7w true S.w.hub.ones, w7w true S.w.hub.twos, w7w true S.w.hub.outs, q7q true S.w.sink, .ref 3 0])), (1, (0, .row 65 13 ((S.w.nodes).map (u2u true)))), (2, (0, .row 79 11 ((S.w.radio).map (v8v true)))), (3, (0, .row 263 5 ((S.list).map a4b))), (4, (0, .box 243 [v4v true bs, .pv (.int .i64 ((S.p : Nat) : Int))]))] (ι := Sm) (fun S' => smOk S' (c + 1030)) (fun S' => [0, 4]) (fun S' => .tup []) (fun S' => [(0, (0, .box 171 [.ptr 4 0 0, pI S'.w.time, a5p true S'.w.apps, .ref 1 0, .ref 2 0, pI S'.w.hub.round, w7w true S'.w.hub.ones, w7w true S'.w.hub.twos, w7w true S'.w.hub.outs, q7q true S'.w.sink, .ref 3 0])), (1, (0, .row 65 13 ((S'.w.nodes).map (u2u true)))), (2, (0, .row 79 11 ((S'.w.radio).map (v8v true)))), (3, (0, .row 263 5 ((S'.list).map a4b))), (4, (0, .box 243 [v4v true bs, .pv (.int .i64 ((S'.p : Nat) : Int))]))]) := by
 refine mE (ι := Sm) Tryz.f288 (fun S' => []) 5 0 fun γ => ?_
 refine a0d fun B X0 w0 => ?_
 refine txR 7 rfl rfl (dv 5 ?_)
 refine rlM [4] [_] (x1x true bs (S.p) (2) (by have := hS.2.2; omega) hbs) rfl rfl rfl ?_
 obtain ⟨N, eN, hN⟩ : ∃ N, pk bs S.p 2 = N ∧ N ≤ 2 := ⟨_, rfl, b2e _ _ _⟩
 rw [eN]
 refine x7x (a := 1) rfl rfl (by omega) ?_
 refine txM [0, 1, 2, 3, 4] [_, _, _, _, _] (a1j bs hbs (pSm S (S.p + 1)) (c + 1) (a3j hS (by omega) (by have := hS.2.2; omega)) (1 + N) 0 (by omega)) rfl rfl rfl rfl fun a ha => ?_
 have ha2 : smOk a (c + 586) := ha.mono (by omega)
 refine u0u rfl (a0d fun B X0 w0 => ?_)
 refine txR 1 rfl rfl (dv 1 ?_)
 refine txM [0, 1, 2, 3, 4] [_, _, _, _, _] (a5f bs hbs a (c + 586) ha2 0 (by omega)) rfl rfl rfl rfl fun b hb => ?_
 refine u0u rfl (a0d fun B X0 w0 => ?_)
 refine txR 2 rfl rfl (dv 1 ?_)
 refine rlB a1y a2v ?_
 refine txM [0, 1, 2, 3, 4] [_, _, _, _, _] (z4z bs hbs b (c + 586 + 281) hb 3 0 0 0 false (by omega)) rfl rfl rfl rfl fun J hJ => ?_
 obtain ⟨j, jb⟩ := J
 have hj : smOk j (c + 586 + 281 + 1) := hJ
 refine u0u rfl (dv 6 ?_)
 refine a3y (n := j.w.radio.length) rfl r6r rfl rfl (List.length_map _) ?_
 refine dc 5 (fun K K' => aI ?_ ?_)<;>intro h<;>try simp at h
 ·refine dv 1 ?_
  exact ⟨j, hj.mono (by omega), [γ 0, _, _, _, γ 4], rfl, rfl, x4x⟩
 have hr40 := hj.1.2.2.2.1
 refine dv 3 ?_
 refine w6w (b := 2) rfl rfl (by omega) (by omega) (dv 4 ?_)
 refine rlM [4] [_] (x1x true bs (j.p) (2) (by have := hj.2.2; omega) hbs) rfl rfl rfl ?_
 obtain ⟨X, eX, hX⟩ : ∃ X, pk bs j.p 2 = X ∧ X < 2 := ⟨_, rfl, a3f _ _ _ (by omega)⟩
 rw [eX]
 refine x7x rfl rfl (by have := hj.1.2.2.2.1; omega) ?_
 refine dv 1 ?_
 obtain ⟨z, ez, hz⟩ : ∃ z, j.w.radio.length - 2 + X = z ∧ z < j.w.radio.length := ⟨_, rfl, by omega⟩
 rw [ez]
 obtain ⟨x, hx⟩ := gE j.w.radio z
 refine dv 7 ?_
 refine y3y (j := z) rfl rfl r6r rfl p0p rfl rfl hz ?_
 refine dv 3 ?_
 refine a0d fun B X0 w0 => ?_
 refine txR 3 rfl rfl (dv 2 ?_)
 refine rlB a1y a2v ?_
 refine txM [0, 1, 2, 3, 4] [_, _, _, _, _] (z4z bs hbs (pSm j (j.p + 1)) (c + 869) (a3j hj (by omega) (by have := hj.2.2; omega)) 4 0 0 z true (by omega)) rfl rfl rfl rfl fun J hJ => ?_
 obtain ⟨j, jb⟩ := J
 have hj : smOk j (c + 869 + 1) := hJ
 refine u0u rfl ?_
 refine w8w (ι := Sm) (fun T γ1 => []) (fun T γ1 => [(1, ((γ1 1), .row 65 13 ((T.w.nodes).map (u2u true)))), (2, ((γ1 2), .row 79 11 ((T.w.radio).map (v8v true)))), (3, ((γ1 3), .row 263 5 ((T.list).map a4b))), (0, ((γ 0), .box 171 [.ptr 4 (γ 4) 0, pI T.w.time, a5p true T.w.apps, .ref 1 (γ1 1), .ref 2 (γ1 2), pI T.w.hub.round, w7w true T.w.hub.ones, w7w true T.w.hub.twos, w7w true T.w.hub.outs, q7q true T.w.sink, .ref 3 (γ1 3)])), (4, ((γ 4), .box 243 [v4v true bs, pI ((T.p : Nat) : Int)]))]) (fun T => smOk T (c + 892)) (q3q [0, 4] rfl) HE.nil ?_ fun T γ1 hi => ?_
 ·refine dv 3 ?_
  refine x5x (ι := Sm × Nat) (fun p γ2 => [(5, pI (p.2 : Int))]) (fun p γ2 => [(1, ((γ2 1), .row 65 13 ((p.1.w.nodes).map (u2u true)))), (2, ((γ2 2), .row 79 11 ((p.1.w.radio).map (v8v true)))), (3, ((γ2 3), .row 263 5 ((p.1.list).map a4b))), (0, ((γ 0), .box 171 [.ptr 4 (γ 4) 0, pI p.1.w.time, a5p true p.1.w.apps, .ref 1 (γ2 1), .ref 2 (γ2 2), pI p.1.w.hub.round, w7w true p.1.w.hub.ones, w7w true p.1.w.hub.twos, w7w true p.1.w.hub.outs, q7q true p.1.w.sink, .ref 3 (γ2 3)])), (4, ((γ 4), .box 243 [v4v true bs, pI ((p.1.p : Nat) : Int)]))]) (fun p => smOk p.1 (c + 870 + 2 * p.2) ∧ p.2 ≤ 10) (fun p => 10 - p.2) (q3q [0, 3, 4] rfl) HE.nil (j, 0) ⟨hj.mono (by omega), Nat.zero_le _⟩ [0, _, _, _] x6x x4x rfl fun p γ2 hi => ?_
  obtain ⟨S1, i⟩ := p
  obtain ⟨h1, h2⟩ := hi
  dsimp only at h1 h2 ⊢
  refine dv 7 fun K K' => ?_
  refine rlM [4] [_] (x1x true bs (S1.p) (4) (by have := h1.2.2; omega) hbs) rfl rfl rfl ?_
  obtain ⟨N6, eN6, hN6⟩ : ∃ N6, pk bs S1.p 4 = N6 ∧ N6 ≤ 4 := ⟨_, rfl, b2e _ _ _⟩
  rw [eN6]
  refine x7x (a := 6) rfl rfl (by omega) (dc 2 (aS ?_ ?_))<;>intro h<;>try simp at h
  ·refine dv 11 ?_
   exact ⟨(pSm S1 (S1.p + 1)), (a3j h1 (by omega) (by have := h1.2.2; omega)), [0, _, _, _], x6x, x6x, x4x, x4x, rfl⟩
  refine dv 5 ?_
  refine a3y (n := S1.w.radio.length) rfl r6r rfl rfl (List.length_map _) ?_
  refine dv 1 ?_
  refine x7x (b := 1) rfl rfl (by omega) (dc 2 (aS ?_ ?_))<;>intro h<;>try simp at h
  ·refine dv 1 ?_
   exact ⟨(pSm S1 (S1.p + 1)), (a3j h1 (by omega) (by have := h1.2.2; omega)), [0, _, _, _], x6x, x6x, x4x, x4x, rfl⟩
  refine dv 3 fun K K' => ?_
  refine a8m fun B X0 w0 => ?_
  refine txR 4 rfl rfl (dv 2 ?_)
  refine x7x (b := 1) rfl rfl (by omega) (rlB a1y a2v ?_)
  refine txM [0, 1, 2, 3, 4] [_, _, _, _, _] (z4z bs hbs (pSm S1 (S1.p + 1)) (c + 870 + 2 * i + 1) (a3j h1 (by omega) (by have := h1.2.2; omega)) 4 0 0 ((z + 1 : Nat) : Int) false (by omega)) rfl rfl rfl rfl fun J hJ => ?_
  obtain ⟨j, jb⟩ := J
  have hj : smOk j (c + 870 + 2 * i + 1 + 1) := hJ
  refine u0u rfl (dv 2 ?_)
  refine x7x (b := 1) rfl rfl (by omega) (dv 1 ?_)
  exact ⟨(j, i + 1), ⟨⟨hj.mono (by show _ ≤ c + 870 + 2 * (i + 1); omega), by show i + 1 ≤ 10; omega⟩, (by show 10 - (i + 1) < 10 - i; omega)⟩, [0, _, _, _], x6x, x6x, x4x, x4x, rfl⟩
 ·try dsimp only [a9u, a9v]
  refine a0d fun B X0 w0 => ?_
  refine txR 3 rfl rfl (dv 2 ?_)
  refine rlB a1y a2v ?_
  refine txM [0, 1, 2, 3, 4] [_, _, _, _, _] (z4z bs hbs T (c + 892) hi 6 x.to 0 0 false (by omega)) rfl rfl rfl rfl fun J hJ => ?_
  obtain ⟨j, jb⟩ := J
  have hj : smOk j (c + 892 + 1) := hJ
  refine u0u rfl (a0d fun B X0 w0 => ?_)
  refine txR 3 rfl rfl (dv 2 ?_)
  refine rlB a1y a2v ?_
  refine txM [0, 1, 2, 3, 4] [_, _, _, _, _] (z4z bs hbs j (c + 892 + 1) hj 7 x.to 0 0 false (by omega)) rfl rfl rfl rfl fun J hJ => ?_
  obtain ⟨j, jb⟩ := J
  have hj : smOk j (c + 892 + 1 + 1) := hJ
  refine u0u rfl (a0d fun B X0 w0 => ?_)
  refine txR 1 rfl rfl (dv 1 ?_)
  refine txM [0, 1, 2, 3, 4] [_, _, _, _, _] (a6j bs hbs j (c + 892 + 1 + 1) hj 4 (by omega) (by omega)) rfl rfl rfl rfl fun u hu => ?_
  refine u0u rfl (a0d fun B X0 w0 => ?_)
  refine txR 1 rfl rfl (dv 1 ?_)
  refine txM [0, 1, 2, 3, 4] [_, _, _, _, _] (a6j bs hbs u (c + 892 + 1 + 1 + (2 + 4)) hu 4 (by omega) (by omega)) rfl rfl rfl rfl fun v hv => ?_
  refine u0u rfl (a8m fun B X0 w0 => ?_)
  refine txR 1 rfl rfl (dv 1 ?_)
  refine txM [0, 1, 2, 3, 4] [_, _, _, _, _] (w9w bs hbs v (c + 892 + 1 + 1 + (2 + 4) + (2 + 4)) hv 30 0 (by omega)) rfl rfl rfl rfl fun r hr => ?_
  refine u0u rfl ?_
  exact ⟨.inl rfl, r, hr.mono (by omega), [γ 0, _, _, _, γ 4], rfl, rfl, x4x⟩
end
section
theorem b9p (bs : List Nat) (hbs : ∀ b ∈ bs, b < 256) (S : Sm) (c : Nat) (hS : smOk S c) (odd : Nat) (hc : c + 1040 ≤ 1000000) : MethE Tryz.prog 238 5 [.ptr 0 0 0, .pv (.int .i64 (odd : Int))] [(0, (0, .box 171 [.ptr 4 0 0, pI S.w.time, a5p true S.w.apps, .ref 1 0, .ref 2 0, pI S.w.hub.round, w7w true S.w.hub.ones, w7w true S.w.hub.twos, w7w true S.w.hub.outs, q7q true S.w.sink, .ref 3 0])), (1, (0, .row 65 13 ((S.w.nodes).map (u2u true)))), (2, (0, .row 79 11 ((S.w.radio).map (v8v true)))), (3, (0, .row 263 5 ((S.list).map a4b))), (4, (0, .box 243 [v4v true bs, .pv (.int .i64 ((S.p : Nat) : Int))]))] (ι := Sm) (fun S' => smOk S' (c + 1040)) (fun S' => [0, 4]) (fun S' => .tup []) (fun S' => [(0, (0, .box 171 [.ptr 4 0 0, pI S'.w.time, a5p true S'.w.apps, .ref 1 0, .ref 2 0, pI S'.w.hub.round, w7w true S'.w.hub.ones, w7w true S'.w.hub.twos, w7w true S'.w.hub.outs, q7q true S'.w.sink, .ref 3 0])), (1, (0, .row 65 13 ((S'.w.nodes).map (u2u true)))), (2, (0, .row 79 11 ((S'.w.radio).map (v8v true)))), (3, (0, .row 263 5 ((S'.list).map a4b))), (4, (0, .box 243 [v4v true bs, .pv (.int .i64 ((S'.p : Nat) : Int))]))]) := by
 refine mE (ι := Sm) Tryz.f238 (fun S' => []) 5 0 fun γ => ?_
 refine dv 5 ?_
 refine rlM [4] [_] (x1x true bs (S.p) (3) (by have := hS.2.2; omega) hbs) rfl rfl rfl ?_
 refine dv 1 ?_
 obtain ⟨Pr, ePr, hPr⟩ : ∃ Pr, pk bs S.p 3 = Pr ∧ Pr ≤ 3 := ⟨_, rfl, b2e _ _ _⟩
 rw [ePr]
 refine dv 5 ?_
 refine rlM [4] [_] (x1x true bs (S.p + 1) (20) (by have := hS.2.2; omega) hbs) rfl rfl rfl ?_
 obtain ⟨X, eX, hX⟩ : ∃ X, pk bs (S.p + 1) 20 = X ∧ X ≤ 20 := ⟨_, rfl, b2e _ _ _⟩
 rw [eX]
 have hp2 : S.p + 1 + 1 ≤ c + 2 := by have := hS.2.2; omega
 have hS2 : smOk (pSm S (S.p + 1 + 1)) (c + 2) := a3j hS (by omega) (by have := hS.2.2; omega)
 refine dv 1 ?_
 refine w8w (ι := Bool) (fun b γ1 => [(27, .pv (.bool (b)))]) (fun b γ1 => []) (fun b => True) (q3q [0, 1, 4, 14] rfl) (a0j [0, 1, 2, 3, 4] rfl) ?_ fun b γ1 hi => ?_
 ·refine dc 3 (aI ?_ ?_)<;>intro h<;>try simp at h
  ·refine dv 1 ?_
   exact ⟨_, trivial, [], x6x, x6x, x4x, x4x, rfl⟩
  refine dc 3 (aI ?_ ?_)<;>intro h<;>try simp at h
  ·refine dv 1 ?_
   exact ⟨_, trivial, [], x6x, x6x, x4x, x4x, rfl⟩
  refine dc 3 (aI ?_ ?_)<;>intro h<;>try simp at h
  ·refine dv 1 ?_
   exact ⟨_, trivial, [], x6x, x6x, x4x, x4x, rfl⟩
  refine dc 3 (aI ?_ ?_)<;>intro h<;>try simp at h
  ·refine dv 1 ?_
   exact ⟨_, trivial, [], x6x, x6x, x4x, x4x, rfl⟩
  refine dv 3 ?_
  exact ⟨_, trivial, [], x6x, x6x, x4x, x4x, rfl⟩
 ·try dsimp only [a9u, a9v]
  refine dc 0 (aI ?_ ?_)<;>intro h<;>try simp at h
  ·refine a8m fun B X0 w0 => ?_
   refine txR 1 rfl rfl (dv 1 ?_)
   refine txM [0, 1, 2, 3, 4] [_, _, _, _, _] (a6j bs hbs (pSm S (S.p + 1 + 1)) (c + 2) hS2 8 (by omega) (by omega)) rfl rfl rfl rfl fun r hr => ?_
   refine u0u rfl ?_
   exact ⟨.inl rfl, r, hr.mono (by omega), [γ 0, _, _, _, γ 4], rfl, rfl, x4x⟩
  refine w8w (ι := Bool) (fun b γ2 => [(35, .pv (.bool (b)))]) (fun b γ2 => []) (fun b => True) (q3q [0, 1, 4, 14] rfl) (a0j [0, 1, 2, 3, 4] rfl) ?_ fun b γ2 hi => ?_
  ·refine dc 3 (aI ?_ ?_)<;>intro h<;>try simp at h
   ·refine dv 1 ?_
    exact ⟨_, trivial, [], x6x, x6x, x4x, x4x, rfl⟩
   refine dc 3 (aI ?_ ?_)<;>intro h<;>try simp at h
   ·refine dv 1 ?_
    exact ⟨_, trivial, [], x6x, x6x, x4x, x4x, rfl⟩
   refine dv 3 ?_
   exact ⟨_, trivial, [], x6x, x6x, x4x, x4x, rfl⟩
  ·try dsimp only [a9u, a9v]
   refine dc 0 (aI ?_ ?_)<;>intro h<;>try simp at h
   ·refine a0d fun B X0 w0 => ?_
    refine txR 3 rfl rfl (dv 2 ?_)
    refine rlB a1y a2v ?_
    refine txM [0, 1, 2, 3, 4] [_, _, _, _, _] (z4z bs hbs (pSm S (S.p + 1 + 1)) (c + 2) hS2 2 Pr 0 0 false (by omega)) rfl rfl rfl rfl fun J hJ => ?_
    obtain ⟨j, jb⟩ := J
    have hj : smOk j (c + 2 + 1) := hJ
    refine u0u rfl (a8m fun B X0 w0 => ?_)
    refine txR 7 rfl rfl (dv 5 ?_)
    refine rlM [4] [_] (x1x true bs (j.p) (6) (by have := hj.2.2; omega) hbs) rfl rfl rfl ?_
    obtain ⟨N, eN, hN⟩ : ∃ N, pk bs j.p 6 = N ∧ N ≤ 6 := ⟨_, rfl, b2e _ _ _⟩
    rw [eN]
    refine dv 1 ?_
    refine txM [0, 1, 2, 3, 4] [_, _, _, _, _] (w9w bs hbs (pSm j (j.p + 1)) (c + 4) (a3j hj (by omega) (by have := hj.2.2; omega)) N odd (by omega)) rfl rfl rfl rfl fun r hr => ?_
    refine u0u rfl ?_
    exact ⟨.inl rfl, r, hr.mono (by omega), [γ 0, _, _, _, γ 4], rfl, rfl, x4x⟩
   refine w8w (ι := Bool) (fun b γ3 => [(51, .pv (.bool (b)))]) (fun b γ3 => []) (fun b => True) (q3q [0, 1, 4, 14] rfl) (a0j [0, 1, 2, 3, 4] rfl) ?_ fun b γ3 hi => ?_
   ·refine dc 3 (aI ?_ ?_)<;>intro h<;>try simp at h
    ·refine dv 1 ?_
     exact ⟨_, trivial, [], x6x, x6x, x4x, x4x, rfl⟩
    refine dv 3 ?_
    exact ⟨_, trivial, [], x6x, x6x, x4x, x4x, rfl⟩
   ·try dsimp only [a9u, a9v]
    refine dc 0 (aI ?_ ?_)<;>intro h<;>try simp at h
    ·refine a8m fun B X0 w0 => ?_
     refine txR 8 rfl rfl (dv 5 ?_)
     refine rlM [4] [_] (x1x true bs (S.p + 1 + 1) (20) (by have := hp2; omega) hbs) rfl rfl rfl ?_
     obtain ⟨N, eN, hN⟩ : ∃ N, pk bs (S.p + 1 + 1) 20 = N ∧ N ≤ 20 := ⟨_, rfl, b2e _ _ _⟩
     rw [eN]
     refine x7x (a := 1) rfl rfl (by omega) (dv 1 ?_)
     refine txM [0, 1, 2, 3, 4] [_, _, _, _, _] (w9w bs hbs (pSm S (S.p + 1 + 1 + 1)) (c + 3) (a3j hS (by omega) (by omega)) (1 + N) odd (by omega)) rfl rfl rfl rfl fun r hr => ?_
     refine u0u rfl ?_
     exact ⟨.inl rfl, r, hr.mono (by omega), [γ 0, _, _, _, γ 4], rfl, rfl, x4x⟩
    refine w8w (ι := Bool) (fun b γ4 => [(63, .pv (.bool (b)))]) (fun b γ4 => []) (fun b => True) (q3q [0, 1, 4, 14] rfl) (a0j [0, 1, 2, 3, 4] rfl) ?_ fun b γ4 hi => ?_
    ·refine dc 3 (aI ?_ ?_)<;>intro h<;>try simp at h
     ·refine dv 1 ?_
      exact ⟨_, trivial, [], x6x, x6x, x4x, x4x, rfl⟩
     refine dv 3 ?_
     exact ⟨_, trivial, [], x6x, x6x, x4x, x4x, rfl⟩
    ·try dsimp only [a9u, a9v]
     refine dc 0 (aI ?_ ?_)<;>intro h<;>try simp at h
     ·refine a0d fun B X0 w0 => ?_
      refine txR 2 rfl rfl (dv 1 ?_)
      refine rlB a1y a2v ?_
      refine txM [0, 1, 2, 3, 4] [_, _, _, _, _] (z4z bs hbs (pSm S (S.p + 1 + 1)) (c + 2) hS2 3 0 0 0 false (by omega)) rfl rfl rfl rfl fun J hJ => ?_
      obtain ⟨j, jb⟩ := J
      have hj : smOk j (c + 2 + 1) := hJ
      refine u0u rfl (a8m fun B X0 w0 => ?_)
      refine txR 7 rfl rfl (dv 5 ?_)
      refine rlM [4] [_] (x1x true bs (j.p) (20) (by have := hj.2.2; omega) hbs) rfl rfl rfl ?_
      obtain ⟨N, eN, hN⟩ : ∃ N, pk bs j.p 20 = N ∧ N ≤ 20 := ⟨_, rfl, b2e _ _ _⟩
      rw [eN]
      refine dv 1 ?_
      refine txM [0, 1, 2, 3, 4] [_, _, _, _, _] (w9w bs hbs (pSm j (j.p + 1)) (c + 4) (a3j hj (by omega) (by have := hj.2.2; omega)) N odd (by omega)) rfl rfl rfl rfl fun r hr => ?_
      refine u0u rfl ?_
      exact ⟨.inl rfl, r, hr.mono (by omega), [γ 0, _, _, _, γ 4], rfl, rfl, x4x⟩
     refine dc 3 (aI ?_ ?_)<;>intro h<;>try simp at h
     ·refine a8m fun B X0 w0 => ?_
      refine txR 8 rfl rfl (dv 5 ?_)
      refine rlM [4] [_] (x1x true bs (S.p + 1 + 1) (2) (by have := hp2; omega) hbs) rfl rfl rfl ?_
      obtain ⟨N, eN, hN⟩ : ∃ N, pk bs (S.p + 1 + 1) 2 = N ∧ N ≤ 2 := ⟨_, rfl, b2e _ _ _⟩
      rw [eN]
      refine x7x (a := 1) rfl rfl (by omega) (dv 1 ?_)
      refine txM [0, 1, 2, 3, 4] [_, _, _, _, _] (a1j bs hbs (pSm S (S.p + 1 + 1 + 1)) (c + 3) (a3j hS (by omega) (by omega)) (1 + N) odd (by omega)) rfl rfl rfl rfl fun r hr => ?_
      refine u0u rfl ?_
      exact ⟨.inl rfl, r, hr.mono (by omega), [γ 0, _, _, _, γ 4], rfl, rfl, x4x⟩
     refine w8w (ι := Bool) (fun b γ5 => [(88, .pv (.bool (b)))]) (fun b γ5 => []) (fun b => True) (q3q [0, 1, 4, 14] rfl) (a0j [0, 1, 2, 3, 4] rfl) ?_ fun b γ5 hi => ?_
     ·refine dc 3 (aI ?_ ?_)<;>intro h<;>try simp at h
      ·refine dv 1 ?_
       exact ⟨_, trivial, [], x6x, x6x, x4x, x4x, rfl⟩
      refine dv 3 ?_
      exact ⟨_, trivial, [], x6x, x6x, x4x, x4x, rfl⟩
     ·try dsimp only [a9u, a9v]
      refine dc 0 (aI ?_ ?_)<;>intro h<;>try simp at h
      ·refine a8m fun B X0 w0 => ?_
       refine txR 2 rfl rfl (dv 2 ?_)
       refine txM [0, 1, 2, 3, 4] [_, _, _, _, _] (a5f bs hbs (pSm S (S.p + 1 + 1)) (c + 2) hS2 odd (by omega)) rfl rfl rfl rfl fun r hr => ?_
       refine u0u rfl ?_
       exact ⟨.inl rfl, r, hr.mono (by omega), [γ 0, _, _, _, γ 4], rfl, rfl, x4x⟩
      refine dc 3 (aI ?_ ?_)<;>intro h<;>try simp at h
      ·refine a8m fun B X0 w0 => ?_
       refine txR 3 rfl rfl (dv 2 ?_)
       refine rlB a1y a2v ?_
       refine txM [0, 1, 2, 3, 4] [_, _, _, _, _] (z4z bs hbs (pSm S (S.p + 1 + 1)) (c + 2) hS2 6 Pr 0 0 false (by omega)) rfl rfl rfl rfl fun J hJ => ?_
       obtain ⟨j, jb⟩ := J
       have hj : smOk j (c + 2 + 1) := hJ
       refine u0u rfl ?_
       exact ⟨.inl rfl, j, hj.mono (by omega), [γ 0, _, _, _, γ 4], rfl, rfl, x4x⟩
      refine dc 3 (aI ?_ ?_)<;>intro h<;>try simp at h
      ·refine a8m fun B X0 w0 => ?_
       refine txR 3 rfl rfl (dv 2 ?_)
       refine rlB a1y a2v ?_
       refine txM [0, 1, 2, 3, 4] [_, _, _, _, _] (z4z bs hbs (pSm S (S.p + 1 + 1)) (c + 2) hS2 7 Pr 0 0 false (by omega)) rfl rfl rfl rfl fun J hJ => ?_
       obtain ⟨j, jb⟩ := J
       have hj : smOk j (c + 2 + 1) := hJ
       refine u0u rfl ?_
       exact ⟨.inl rfl, j, hj.mono (by omega), [γ 0, _, _, _, γ 4], rfl, rfl, x4x⟩
      refine dc 3 (aI ?_ ?_)<;>intro h<;>try simp at h
      ·refine a8m fun B X0 w0 => ?_
       refine txR 2 rfl rfl (dv 1 ?_)
       refine rlB a1y a2v ?_
       refine txM [0, 1, 2, 3, 4] [_, _, _, _, _] (z4z bs hbs (pSm S (S.p + 1 + 1)) (c + 2) hS2 8 0 0 0 false (by omega)) rfl rfl rfl rfl fun J hJ => ?_
       obtain ⟨j, jb⟩ := J
       have hj : smOk j (c + 2 + 1) := hJ
       refine u0u rfl ?_
       exact ⟨.inl rfl, j, hj.mono (by omega), [γ 0, _, _, _, γ 4], rfl, rfl, x4x⟩
      refine dc 3 (aI ?_ ?_)<;>intro h<;>try simp at h
      ·refine dv 5 ?_
       refine rlM [4] [_] (x1x true bs (S.p + 1 + 1) (2) (by have := hp2; omega) hbs) rfl rfl rfl ?_
       refine dc 1 (aI ?_ ?_)<;>intro h<;>try simp at h
       ·refine a8m fun B X0 w0 => ?_
        refine txR 1 rfl rfl (dv 1 ?_)
        refine txM [0, 1, 2, 3, 4] [_, _, _, _, _] (b9o bs hbs (pSm S (S.p + 1 + 1 + 1)) (c + 3) (a3j hS (by omega) (by omega))  (by omega)) rfl rfl rfl rfl fun r hr => ?_
        refine u0u rfl ?_
        exact ⟨.inl rfl, r, hr.mono (by omega), [γ 0, _, _, _, γ 4], rfl, rfl, x4x⟩
       refine a8m fun B X0 w0 => ?_
       refine txR 1 rfl rfl (dv 1 ?_)
       refine txM [0, 1, 2, 3, 4] [_, _, _, _, _] (c1e bs hbs (pSm S (S.p + 1 + 1 + 1)) (c + 3) (a3j hS (by omega) (by omega))  (by omega)) rfl rfl rfl rfl fun r hr => ?_
       refine u0u rfl ?_
       exact ⟨.inl rfl, r, hr.mono (by omega), [γ 0, _, _, _, γ 4], rfl, rfl, x4x⟩
      refine a0d fun B X0 w0 => ?_
      refine txR 1 rfl rfl (dv 1 ?_)
      refine txM [0, 1, 2, 3, 4] [_, _, _, _, _] (a1j bs hbs (pSm S (S.p + 1 + 1)) (c + 2) hS2 3 0 (by omega)) rfl rfl rfl rfl fun a ha => ?_
      refine u0u rfl (a0d fun B X0 w0 => ?_)
      refine txR 2 rfl rfl (dv 1 ?_)
      refine rlB a1y a2v ?_
      refine txM [0, 1, 2, 3, 4] [_, _, _, _, _] (z4z bs hbs a (c + 2 + 195 * 3) ha 3 0 0 0 false (by omega)) rfl rfl rfl rfl fun J hJ => ?_
      obtain ⟨j, jb⟩ := J
      have hj : smOk j (c + 2 + 195 * 3 + 1) := hJ
      refine u0u rfl (a0d fun B X0 w0 => ?_)
      refine txR 1 rfl rfl (dv 1 ?_)
      refine txM [0, 1, 2, 3, 4] [_, _, _, _, _] (w9w bs hbs j (c + 2 + 195 * 3 + 1) hj 30 0 (by omega)) rfl rfl rfl rfl fun b hb => ?_
      refine u0u rfl (a0d fun B X0 w0 => ?_)
      refine txR 1 rfl rfl (dv 1 ?_)
      refine txM [0, 1, 2, 3, 4] [_, _, _, _, _] (a1j bs hbs b (c + 2 + 195 * 3 + 1 + 4 * 30) hb 1 0 (by omega)) rfl rfl rfl rfl fun d hd => ?_
      refine u0u rfl (a8m fun B X0 w0 => ?_)
      refine txR 2 rfl rfl (dv 1 ?_)
      refine rlB a1y a2v ?_
      refine txM [0, 1, 2, 3, 4] [_, _, _, _, _] (z4z bs hbs d (c + 2 + 195 * 3 + 1 + 4 * 30 + 195 * 1) hd 8 0 0 0 false (by omega)) rfl rfl rfl rfl fun J hJ => ?_
      obtain ⟨j, jb⟩ := J
      have hj : smOk j (c + 2 + 195 * 3 + 1 + 4 * 30 + 195 * 1 + 1) := hJ
      refine u0u rfl ?_
      exact ⟨.inl rfl, j, hj.mono (by omega), [γ 0, _, _, _, γ 4], rfl, rfl, x4x⟩
end
section
theorem d3l (bs : List Nat) (hbs : ∀ b ∈ bs, b < 256) (p0 : Nat) (hp : p0 + 5 ≤ 1000000) : MethE Tryz.prog 287 1 [.ptr 0 0 0] [(0, (0, .box 243 [v4v true bs, .pv (.int .i64 ((p0 : Nat) : Int))]))] (ι := Op_ × Nat) (fun S' => b3c S'.1 ∧ S'.2 ≤ p0 + 5) (fun S' => [0]) (fun S' => .agg (b4w S'.1)) (fun S' => [(0, (0, .box 243 [v4v true bs, .pv (.int .i64 ((S'.2 : Nat) : Int))]))]) := by
 refine mE (ι := Op_ × Nat) Tryz.f287 (fun S' => [.agg (b4w S'.1)]) 1 1 fun γ => ?_
 refine dv 1 ?_
 refine x2x (id := 1) a1p b8n rfl (dv 3 fun K K' => ?_)
 refine rlM [0] [_] (x1x true bs (p0) (10) (by have := hp; omega) hbs) rfl rfl rfl ?_
 refine dc 4 (aI ?_ ?_)<;>intro h<;>try simp at h
 ·refine dv 2 ?_
  refine rlM [0] [_] (x1x true bs (p0 + 1) (2) (by have := hp; omega) hbs) rfl rfl rfl ?_
  refine dv 1 ?_
  refine rlM [0] [_] (x1x true bs (p0 + 1 + 1) (20) (by have := hp; omega) hbs) rfl rfl rfl ?_
  refine rlB a1p b8n ?_
  refine dv 2 ?_
  exact ⟨(⟨1, (pk bs (p0 + 1) 2 : Int), (pk bs (p0 + 1 + 1) 20 : Int), 0, 0⟩, p0 + 1 + 1 + 1), ⟨(by have h0 := a3f bs (p0 + 1) 2 (by omega); have h1 := a3f bs (p0 + 1 + 1) 20 (by omega); unfold b3c a3w b6e; dsimp only; omega), (by show p0 + 1 + 1 + 1 ≤ p0 + 5; omega)⟩, [γ 0], rfl, rfl, x4x⟩
 refine dc 3 (aI ?_ ?_)<;>intro h<;>try simp at h
 ·refine dv 2 ?_
  refine rlM [0] [_] (x1x true bs (p0 + 1) (2) (by have := hp; omega) hbs) rfl rfl rfl ?_
  refine dv 1 ?_
  refine rlM [0] [_] (x1x true bs (p0 + 1 + 1) (2) (by have := hp; omega) hbs) rfl rfl rfl ?_
  refine rlB a1p b8n ?_
  refine dv 2 ?_
  exact ⟨(⟨2, (pk bs (p0 + 1) 2 : Int), (pk bs (p0 + 1 + 1) 2 : Int), 0, 0⟩, p0 + 1 + 1 + 1), ⟨(by have h0 := a3f bs (p0 + 1) 2 (by omega); have h1 := a3f bs (p0 + 1 + 1) 2 (by omega); unfold b3c a3w b6e; dsimp only; omega), (by show p0 + 1 + 1 + 1 ≤ p0 + 5; omega)⟩, [γ 0], rfl, rfl, x4x⟩
 refine dc 3 (aI ?_ ?_)<;>intro h<;>try simp at h
 ·refine dv 2 ?_
  refine rlM [0] [_] (x1x true bs (p0 + 1) (2) (by have := hp; omega) hbs) rfl rfl rfl ?_
  refine dv 1 ?_
  refine rlM [0] [_] (x1x true bs (p0 + 1 + 1) (9) (by have := hp; omega) hbs) rfl rfl rfl ?_
  have q9 := a3f bs (p0 + 1 + 1) 9 (by omega)
  refine x7x (a := 1) rfl rfl (by omega) (rlB a1p b8n ?_)
  refine dv 2 ?_
  exact ⟨(⟨3, (pk bs (p0 + 1) 2 : Int), ((1 + pk bs (p0 + 1 + 1) 9 : Nat) : Int), 0, 0⟩, p0 + 1 + 1 + 1), ⟨(by have h0 := a3f bs (p0 + 1) 2 (by omega); have h1 := a3f bs (p0 + 1 + 1) 9 (by omega); unfold b3c a3w b6e; dsimp only; omega), (by show p0 + 1 + 1 + 1 ≤ p0 + 5; omega)⟩, [γ 0], rfl, rfl, x4x⟩
 refine dc 3 (aI ?_ ?_)<;>intro h<;>try simp at h
 ·refine dv 2 ?_
  refine rlM [0] [_] (x1x true bs (p0 + 1) (2) (by have := hp; omega) hbs) rfl rfl rfl ?_
  refine rlB a1p b8n ?_
  refine dv 2 ?_
  exact ⟨(⟨4, (pk bs (p0 + 1) 2 : Int), 0, 0, 0⟩, p0 + 1 + 1), ⟨(by have h0 := a3f bs (p0 + 1) 2 (by omega); unfold b3c a3w b6e; dsimp only; omega), (by show p0 + 1 + 1 ≤ p0 + 5; omega)⟩, [γ 0], rfl, rfl, x4x⟩
 refine dc 3 (aI ?_ ?_)<;>intro h<;>try simp at h
 ·refine dv 2 ?_
  refine rlM [0] [_] (x1x true bs (p0 + 1) (2) (by have := hp; omega) hbs) rfl rfl rfl ?_
  refine dv 1 ?_
  refine rlM [0] [_] (x1x true bs (p0 + 1 + 1) (60) (by have := hp; omega) hbs) rfl rfl rfl ?_
  refine dv 1 ?_
  refine rlM [0] [_] (x1x true bs (p0 + 1 + 1 + 1) (2) (by have := hp; omega) hbs) rfl rfl rfl ?_
  have q9 := a3f bs (p0 + 1 + 1 + 1) 2 (by omega)
  refine x7x (a := 1) rfl rfl (by omega) (rlB a1p b8n ?_)
  refine dv 2 ?_
  exact ⟨(⟨5, (pk bs (p0 + 1) 2 : Int), (pk bs (p0 + 1 + 1) 60 : Int), ((1 + pk bs (p0 + 1 + 1 + 1) 2 : Nat) : Int), 0⟩, p0 + 1 + 1 + 1 + 1), ⟨(by have h0 := a3f bs (p0 + 1) 2 (by omega); have h1 := a3f bs (p0 + 1 + 1) 60 (by omega); have h2 := a3f bs (p0 + 1 + 1 + 1) 2 (by omega); unfold b3c a3w b6e; dsimp only; omega), (by show p0 + 1 + 1 + 1 + 1 ≤ p0 + 5; omega)⟩, [γ 0], rfl, rfl, x4x⟩
 refine w8w (ι := Bool) (fun b γ1 => [(42, .pv (.bool (b)))]) (fun b γ1 => []) (fun b => True) (q3q [0, 2] rfl) (a0j [0, 1] rfl) ?_ fun b γ1 hi => ?_
 ·refine dc 3 (aI ?_ ?_)<;>intro h<;>try simp at h
  ·refine dv 1 ?_
   exact ⟨_, trivial, [], x6x, x6x, x4x, x4x, rfl⟩
  refine dc 3 (aI ?_ ?_)<;>intro h<;>try simp at h
  ·refine dv 1 ?_
   exact ⟨_, trivial, [], x6x, x6x, x4x, x4x, rfl⟩
  refine dv 3 ?_
  exact ⟨_, trivial, [], x6x, x6x, x4x, x4x, rfl⟩
 ·try dsimp only [a9u, a9v]
  refine dc 0 (aS ?_ ?_)<;>intro h<;>try simp at h
  ·refine dv 3 ?_
   refine rlM [0] [_] (x1x true bs (p0 + 1) (2) (by have := hp; omega) hbs) rfl rfl rfl ?_
   refine rlB a1p b8n ?_
   refine dv 2 ?_
   exact ⟨(⟨7, (pk bs (p0 + 1) 2 : Int), 0, 0, 0⟩, p0 + 1 + 1), ⟨(by have h0 := a3f bs (p0 + 1) 2 (by omega); unfold b3c a3w b6e; dsimp only; omega), (by show p0 + 1 + 1 ≤ p0 + 5; omega)⟩, [γ 0], rfl, rfl, x4x⟩
  refine dv 2 ?_
  refine rlM [0] [_] (x1x true bs (p0 + 1) (4) (by have := hp; omega) hbs) rfl rfl rfl ?_
  refine dv 1 ?_
  refine rlM [0] [_] (x1x true bs (p0 + 1 + 1) (3) (by have := hp; omega) hbs) rfl rfl rfl ?_
  refine dv 1 ?_
  refine rlM [0] [_] (x1x true bs (p0 + 1 + 1 + 1) (7) (by have := hp; omega) hbs) rfl rfl rfl ?_
  have q9 := a3f bs (p0 + 1 + 1 + 1) 7 (by omega)
  refine x7x (a := 1) rfl rfl (by omega) (dv 1 ?_)
  refine rlM [0] [_] (x1x true bs (p0 + 1 + 1 + 1 + 1) (2) (by have := hp; omega) hbs) rfl rfl rfl ?_
  refine rlB a1p b8n ?_
  refine dv 2 ?_
  exact ⟨(⟨6, (pk bs (p0 + 1) 4 : Int), (pk bs (p0 + 1 + 1) 3 : Int), ((1 + pk bs (p0 + 1 + 1 + 1) 7 : Nat) : Int), (pk bs (p0 + 1 + 1 + 1 + 1) 2 : Int)⟩, p0 + 1 + 1 + 1 + 1 + 1), ⟨(by have h0 := a3f bs (p0 + 1) 4 (by omega); have h1 := a3f bs (p0 + 1 + 1) 3 (by omega); have h2 := a3f bs (p0 + 1 + 1 + 1) 7 (by omega); have h3 := a3f bs (p0 + 1 + 1 + 1 + 1) 2 (by omega); unfold b3c a3w b6e; dsimp only; omega), (by show p0 + 1 + 1 + 1 + 1 + 1 ≤ p0 + 5; omega)⟩, [γ 0], rfl, rfl, x4x⟩
end
section
theorem c6v (bs : List Nat) (hbs : ∀ b ∈ bs, b < 256) (p0 : Nat) (hp : p0 + 500 ≤ 1000000) : MethE Tryz.prog 237 1 [.ptr 0 0 0] [(0, (0, .box 243 [v4v true bs, .pv (.int .i64 ((p0 : Nat) : Int))]))] (ι := List Ap × Nat) (fun S' => a7w S'.1 ∧ S'.2 ≤ p0 + 500) (fun S' => [0]) (fun S' => a5p true S'.1) (fun S' => [(0, (0, .box 243 [v4v true bs, .pv (.int .i64 ((S'.2 : Nat) : Int))]))]) := by
 refine mE (ι := List Ap × Nat) Tryz.f237 (fun S' => [a5p true S'.1]) 1 16 fun γ => ?_
 refine dv 3 ?_
 refine y1y (id := 1) c8l rfl a5u rfl (dv 5 fun K K' => ?_)
 refine x5x (ι := List Ap × Nat) (fun p γ1 => [(3, .ref 1 (γ1 1)), (4, pI (p.1.length : Int))]) (fun p γ1 => [(1, ((γ1 1), .row 121 1 ((p.1).map (b9g true)))), (15, ((γ1 15), .dead)), (16, ((γ1 16), .dead)), (0, ((γ 0), .box 243 [v4v true bs, pI ((p.2 : Nat) : Int)])), (2, ((γ1 2), .dead)), (3, ((γ1 3), .dead)), (4, ((γ1 4), .dead)), (5, ((γ1 5), .dead)), (6, ((γ1 6), .dead)), (7, ((γ1 7), .dead)), (8, ((γ1 8), .dead)), (9, ((γ1 9), .dead)), (10, ((γ1 10), .dead)), (11, ((γ1 11), .dead)), (12, ((γ1 12), .dead)), (13, ((γ1 13), .dead)), (14, ((γ1 14), .dead))]) (fun p => p.1.length ≤ 4 ∧ (∀ a ∈ p.1, e4o a) ∧ p.2 ≤ p0 + 120 * p.1.length) (fun p => 4 - p.1.length) (y0y 0 rfl Cov.nil) HE.nil ([], p0) ⟨Nat.zero_le _, fun a h => (by cases h), Nat.le_refl _⟩ [0, _, _, _, _, _, _, _, _, _, _, _, _, _, _, _, _] x6x (HE.row rfl (by rfl) (HE.kill rfl (HE.kill rfl (HE.box rfl rfl (HE.kill rfl (HE.kill rfl (HE.kill rfl (HE.kill rfl (HE.kill rfl (HE.kill rfl (HE.kill rfl (HE.kill rfl (HE.kill rfl (HE.kill rfl (HE.kill rfl (HE.kill rfl (HE.kill rfl HE.nil))))))))))))))))) rfl fun p γ1 hi => ?_
 obtain ⟨l, q⟩ := p
 obtain ⟨h1, h2, h3⟩ := hi
 dsimp only at h1 h2 h3 ⊢
 refine dc 4 (fun K K' => aS ?_ ?_)<;>intro o<;>try simp at o
 ·have h4 : l.length = 4 := by omega
  have hT : a7w l := ⟨h4, h2⟩
  refine dv 1 ?_
  refine w5w (f := b9g true) 3 rfl rfl (fun _ => rfl) ?_
  refine dv 4 ?_
  exact ⟨(l, q), ⟨hT, by show q ≤ p0 + 500; omega⟩, [γ 0], rfl, rfl, x4x⟩
 have h1l : l.length < 4 := by omega
 refine dv 4 fun K K' => ?_
 refine rlB a5u b6a ?_
 refine x2x (id := 2) a5u b6a rfl (dv 5 fun K K' => ?_)
 refine a0f 2 0 15 232 2 rfl rfl rfl rfl rfl ?_
 refine x5x (ι := List Ru × Nat) (fun p γ2 => [(6, pI (p.1.length : Int))]) (fun p γ2 => [(15, ((γ2 15), .row 232 2 ((p.1).map (d0a true)))), (16, ((γ2 16), .dead)), (0, ((γ 0), .box 243 [v4v true bs, pI ((p.2 : Nat) : Int)])), (2, ((γ1 2 + 1), .box 121 [.ref 15 (γ2 15)])), (3, ((γ2 3), .dead)), (4, ((γ2 4), .dead)), (5, ((γ2 5), .dead)), (6, ((γ2 6), .dead)), (7, ((γ2 7), .dead)), (8, ((γ2 8), .dead)), (9, ((γ2 9), .dead)), (10, ((γ2 10), .dead)), (11, ((γ2 11), .dead)), (12, ((γ2 12), .dead))]) (fun p => p.1.length ≤ 3 ∧ f6s p.1 ∧ p.2 ≤ q + 40 * p.1.length) (fun p => 3 - p.1.length) (q3q [0, 3, 4, 5] rfl) (a0j [1, 13, 14] rfl) ([], q) ⟨Nat.zero_le _, fun i r h => (by simp at h), Nat.le_refl _⟩ [0, 0, 0, _, _, _, _, _, _, _, _, _, _, 0, 0, _, _] x6x (HE.row rfl (by rfl) (HE.kill rfl (HE.box rfl rfl (HE.box rfl rfl (HE.kill rfl (HE.kill rfl (HE.kill rfl (HE.kill rfl (HE.kill rfl (HE.kill rfl (HE.kill rfl (HE.kill rfl (HE.kill rfl (HE.kill rfl HE.nil)))))))))))))) rfl fun p γ2 hi => ?_
 obtain ⟨rs, q1⟩ := p
 obtain ⟨k1, k2, k3⟩ := hi
 dsimp only at k1 k2 k3 ⊢
 refine dc 4 (fun K K' => aS ?_ ?_)<;>intro o<;>try simp at o
 ·refine dv 1 ?_
  refine v5v (b := e4p true rs) 2 0 rfl rfl rfl (.ref rfl (Le.ow_map _ (fun _ => rfl) (fun _ => rfl)) .nil) rfl rfl rfl rfl ?_
  refine dv 3 ?_
  refine y2y (id := 13) c8l rfl a5u rfl rfl rfl rfl rfl rfl ?_
  refine y7y (zs := ((l ++ [(⟨rs⟩ : Ap)]).map (b9g true))) rfl rfl c8l rfl a5u rfl rfl rfl rfl (by rfl) (z7z (b9g true) l ⟨rs⟩) (by (simp only [s3s, r0r, r5r, r8r, a0p, a2m, T121]; omega)) ?_
  refine dv 3 ?_
  refine x7x (b := 1) rfl rfl (by omega) (dv 1 ?_)
  exact ⟨(l ++ [⟨rs⟩], q1), ⟨(f6l h2 (f6j k1 k2) h1l h3 k3 k1), (by show 4 - (l ++ [_]).length < 4 - l.length; rw [List.length_append]; show 4 - (l.length + 1) < _; omega)⟩, [0, _, _, _, _, _, _, _, _, _, _, _, _, _, _, _, _], (y0y 3 rfl (Cov.cons' (t := 4) rfl ((by rw [List.length_append]; rfl)) Cov.nil)), x6x, (HE.row rfl (by rfl) (HE.kill rfl (HE.kill rfl (HE.box rfl rfl (HE.kill rfl (HE.kill rfl (HE.kill rfl (HE.kill rfl (HE.kill rfl (HE.kill rfl (HE.kill rfl (HE.kill rfl (HE.kill rfl (HE.kill rfl (HE.kill rfl (HE.kill rfl (HE.kill rfl HE.nil))))))))))))))))), x4x, rfl⟩
 have k1l : rs.length < 3 := by omega
 refine dv 5 fun K K' => ?_
 refine rlB c1m d5z ?_
 refine x2x (id := 3) c1m d5z rfl (dv 4 fun K K' => ?_)
 refine rlM [0] [_] (x1x true bs (q1) (5) (by have := k3; omega) hbs) rfl rfl rfl ?_
 obtain ⟨N, eN, hN⟩ : ∃ N, pk bs q1 5 = N ∧ N ≤ 5 := ⟨_, rfl, b2e _ _ _⟩
 rw [eN]
 refine x7x (a := 2) rfl rfl (by omega) (dv 2 ?_)
 refine a0f 3 1 16 297 5 rfl rfl rfl rfl rfl ?_
 refine x5x (ι := List Op_ × Nat × Nat) (fun p γ3 => [(8, pI (p.2.2 : Int))]) (fun p γ3 => [(16, ((γ3 16), .row 297 5 ((p.1).map b4w))), (0, ((γ 0), .box 243 [v4v true bs, pI ((p.2.1 : Nat) : Int)])), (3, ((γ2 3 + 1), .box 232 [pI (rs.length : Int), .ref 16 (γ3 16)])), (4, ((γ3 4), .dead)), (5, ((γ3 5), .dead)), (6, ((γ3 6), .dead)), (7, ((γ3 7), .dead)), (8, ((γ3 8), .dead)), (9, ((γ3 9), .dead)), (10, ((γ3 10), .dead))]) (fun p => d0w ⟨(rs.length : Int), p.1⟩ ∧ p.2.1 + 5 * p.2.2 ≤ q1 + 1 + 5 * (2 + N)) (fun p => p.2.2) (q3q [0, 3, 4, 5, 6, 7] rfl) (a0j [1, 2, 11, 12, 13, 14, 15] rfl) ([], q1 + 1, 2 + N) ⟨ru0, by show q1 + 1 + 5 * (2 + N) ≤ _; omega⟩ [0, 0, 0, 0, _, _, _, _, _, _, _, 0, 0, 0, 0, 0, _] x6x (HE.row rfl (by rfl) (HE.box rfl rfl (HE.box rfl rfl (HE.kill rfl (HE.kill rfl (HE.kill rfl (HE.kill rfl (HE.kill rfl (HE.kill rfl (HE.kill rfl HE.nil)))))))))) rfl fun p γ3 hi => ?_
 obtain ⟨ops, q2, n⟩ := p
 obtain ⟨l1, l2⟩ := hi
 dsimp only at l1 l2 ⊢
 refine dc 4 (fun K K' => aS ?_ ?_)<;>intro o<;>try simp at o
 ·refine dv 1 ?_
  refine v5v (b := f0a true ops) 3 1 rfl rfl rfl (.ref rfl (Le.ow_map _ (fun _ => rfl) (fun _ => rfl)) .nil) rfl rfl rfl rfl ?_
  refine dv 4 ?_
  refine y2y (id := 11) d5w rfl c1m rfl rfl rfl rfl rfl rfl ?_
  refine y7y (zs := ((rs ++ [(⟨(rs.length : Int), ops⟩ : Ru)]).map (d0a true))) rfl rfl d5w rfl c1m rfl rfl rfl rfl (by rfl) (z7z (d0a true) rs (⟨(rs.length : Int), ops⟩ : Ru)) (by (simp only [s3s, r0r, r5r, r8r, a0p, a2m, T232]; omega)) ?_
  refine dv 4 ?_
  refine x7x (b := 1) rfl rfl (by omega) (dv 1 ?_)
  exact ⟨(rs ++ [(⟨(rs.length : Int), ops⟩ : Ru)], q2), ⟨(f6k k2 l1 k1l k3 (by omega)), (by show 3 - (rs ++ [_]).length < 3 - rs.length; rw [List.length_append]; show 3 - (rs.length + 1) < _; omega)⟩, [0, 0, 0, _, _, _, _, _, _, _, _, _, _, 0, 0, _, _], (Cov.cons' (t := 6) rfl ((by rw [List.length_append]; rfl)) Cov.nil), x6x, (HE.row rfl (by rfl) (HE.kill rfl (HE.box rfl rfl (HE.box rfl rfl (HE.kill rfl (HE.kill rfl (HE.kill rfl (HE.kill rfl (HE.kill rfl (HE.kill rfl (HE.kill rfl (HE.kill rfl (HE.kill rfl (HE.kill rfl HE.nil)))))))))))))), x4x, rfl⟩
 obtain ⟨n', rfl⟩ : ∃ n', n = n' + 1 := ⟨n - 1, by omega⟩
 refine dv 1 ?_
 refine w8w (ι := List Op_ × Nat) (fun os γ4 => []) (fun os γ4 => [(16, ((γ4 16), .row 297 5 ((os.1).map b4w))), (0, ((γ 0), .box 243 [v4v true bs, pI ((os.2 : Nat) : Int)])), (3, ((γ2 3 + 1), .box 232 [pI (rs.length : Int), .ref 16 (γ4 16)])), (4, ((γ4 4), .dead)), (5, ((γ4 5), .dead)), (6, ((γ4 6), .dead)), (7, ((γ4 7), .dead)), (8, ((γ4 8), .dead)), (9, ((γ4 9), .dead)), (10, ((γ4 10), .dead))]) (fun os => d0w ⟨(rs.length : Int), os.1⟩ ∧ os.2 ≤ q2 + 5) (q3q [0, 3, 4, 5, 6, 7, 8] rfl) (a0j [1, 2, 11, 12, 13, 14, 15] rfl) ?_ fun os γ4 hi => ?_
 ·refine dv 1 ?_
  refine a0d fun B X0 w0 => ?_
  refine txR 1 rfl rfl (dv 1 ?_)
  refine txM [0] [_] (d3l bs hbs q2 (by omega)) rfl rfl rfl rfl fun j hj => ?_
  obtain ⟨hj1, hj2⟩ := hj
  have hol : ops.length ≤ 8 := l1.2.1
  refine txR 2 rfl rfl (x2x (id := 4) a1p b8n rfl (dv 1 ?_))
  refine u0u rfl (dv 2 ?_)
  refine y1y (id := 5) b8l rfl a1p rfl (dv 2 ?_)
  refine y7y (zs := (ops.map b4w)) rfl rfl b8l rfl a1p rfl rfl rfl rfl (z6z (fun _ => rfl) _) rfl (by (simp only [s3s, r0r, r5r, r8r, a0p, a2m, T297]; omega)) ?_
  refine dv 1 ?_
  refine y2y (id := 7) b8l rfl a1p rfl rfl rfl rfl rfl rfl ?_
  refine y7y (zs := ((ops ++ [j.1]).map b4w)) rfl rfl b8l rfl a1p rfl rfl rfl rfl (by rfl) (z7z b4w ops j.1) (by (simp only [s3s, r0r, r5r, r8r, a0p, a2m, T297]; omega)) ?_
  refine rlB c1m d5z ?_
  refine b2m rfl rfl rfl (.agg rfl (.cl rfl (.ref rfl (Le.ow_map _ nf (fun _ => rfl)) .nil)) .nil) (b5e false (⟨(rs.length : Int), ops ++ [j.1]⟩ : Ru) (by show (ops ++ [j.1]).length ≤ _; rw [List.length_append]; show ops.length + 1 ≤ _; have : ops.length ≤ 8 := hol; omega)) (.pv _) ?_
  refine dc 0 (aS ?_ ?_)<;>intro hc12<;>try simp at hc12
  ·refine dv 1 ?_
   exact ⟨(ops, j.2), ⟨l1, hj2⟩, [0, 0, 0, 0, _, _, _, _, _, _, _, 0, 0, 0, 0, 0, _], x6x, x6x, x4x, x4x, rfl⟩
  have hru : d0w (⟨(rs.length : Int), ops ++ [j.1]⟩ : Ru) := a1c.1 (by simpa using hc12)
  refine dv 4 ?_
  refine y2y (id := 9) b8l rfl a1p rfl rfl rfl rfl rfl rfl ?_
  refine y7y (zs := ((ops ++ [j.1]).map b4w)) rfl rfl b8l rfl a1p rfl rfl rfl rfl (by rfl) (z7z b4w ops j.1) (by (simp only [s3s, r0r, r5r, r8r, a0p, a2m, T297]; omega)) ?_
  refine dv 2 ?_
  exact ⟨(ops ++ [j.1], j.2), ⟨hru, hj2⟩, [0, 0, 0, 0, _, _, _, _, _, _, _, 0, 0, 0, 0, 0, _], x6x, x6x, x4x, x4x, rfl⟩
 ·try dsimp only [a9u, a9v]
  refine dv 2 ?_
  refine w6w (b := 1) rfl rfl (by omega) (by omega) (dv 1 ?_)
  exact ⟨(os.1, os.2, n'), ⟨⟨hi.1, by have := hi.2; show os.2 + 5 * n' ≤ _; omega⟩, (by show n' < n' + 1; omega)⟩, [0, 0, 0, 0, _, _, _, _, _, _, _, 0, 0, 0, 0, 0, _], x6x, x6x, x4x, x4x, rfl⟩
end
section
theorem c6w (c : Bool) (l : List Ap) (hA : a7w l) : a0t Tryz.prog 88 [a5p c l] (a5p true l) := by
 refine pX Tryz.f88 [a5p true l] 9 ?_
 have hl4 := hA.1
 refine dv 3 ?_
 refine y1y (id := 0) c8l rfl a5u rfl (dv 5 fun K K' => ?_)
 refine x5x (ι := Nat) (fun i γ1 => [(3, .ref 0 (γ1 0)), (4, pI (i : Int))]) (fun i γ1 => [(0, ((γ1 0), .row 121 1 ((l.take i).map (b9g true)))), (8, ((γ1 8), .dead)), (1, ((γ1 1), .dead)), (2, ((γ1 2), .dead)), (3, ((γ1 3), .dead)), (4, ((γ1 4), .dead)), (5, ((γ1 5), .dead)), (6, ((γ1 6), .dead)), (7, ((γ1 7), .dead))]) (fun i => i ≤ l.length) (fun i => l.length - i) (y0y 0 rfl Cov.nil) HE.nil 0 (by omega) [_, _, _, _, _, _, _, _, _] x6x (HE.row rfl (by rw [List.take_zero]; rfl) (HE.kill rfl (HE.kill rfl (HE.kill rfl (HE.kill rfl (HE.kill rfl (HE.kill rfl (HE.kill rfl (HE.kill rfl HE.nil))))))))) rfl fun i γ1 hi => ?_
 refine dc 6 (fun K K' => aS ?_ ?_)<;>intro h<;>try simp at h
 ·obtain rfl : i = l.length := by omega
  refine dv 5 ?_
  refine a5d rfl rfl (fun _ => rfl) ?_
  rw [List.take_length]
 obtain ⟨a, ha⟩ := gE l i
 have hap := hA.2 a (List.mem_of_getElem? ha)
 have har := hap.1
 refine dv 4 fun K K' => ?_
 refine rlB a5u b6a ?_
 refine x2x (id := 1) a5u b6a rfl (dv 5 fun K K' => ?_)
 refine a0f 1 0 8 232 2 rfl rfl rfl rfl rfl ?_
 refine x5x (ι := Nat) (fun k γ2 => [(6, pI (k : Int))]) (fun k γ2 => [(8, ((γ2 8), .row 232 2 ((a.rules.take k).map (d0a true)))), (1, ((γ1 1 + 1), .box 121 [.ref 8 (γ2 8)])), (2, ((γ2 2), .dead)), (3, ((γ2 3), .dead)), (4, ((γ2 4), .dead)), (5, ((γ2 5), .dead))]) (fun k => k ≤ a.rules.length) (fun k => a.rules.length - k) (q3q [0, 3, 4, 5] rfl) (a0j [0, 6, 7] rfl) 0 (by omega) [0, 0, _, _, _, _, 0, 0, _] x6x (HE.row rfl (by rw [List.take_zero]; rfl) (HE.box rfl rfl (HE.kill rfl (HE.kill rfl (HE.kill rfl (HE.kill rfl HE.nil)))))) rfl fun k γ2 hi => ?_
 refine dc 10 (fun K K' => aS ?_ ?_)<;>intro h<;>try simp at h
 ·obtain rfl : k = a.rules.length := by omega
  rw [List.take_length]
  refine dv 1 ?_
  refine v5v (b := e4p true a.rules) 1 0 rfl rfl rfl (.ref rfl (Le.ow_map _ (fun _ => rfl) (fun _ => rfl)) .nil) rfl rfl rfl rfl ?_
  refine dv 3 ?_
  refine y2y (id := 6) c8l rfl a5u rfl rfl rfl rfl rfl rfl ?_
  refine y7y (zs := (l.take i ++ [a]).map (b9g true)) rfl rfl c8l rfl a5u rfl rfl rfl rfl (by rfl) (z7z _ _ _) (by (simp only [s3s, r0r, r5r, r8r, a0p, T121]; omega)) ?_
  refine dv 3 ?_
  refine u1u rfl rfl rfl (dv 1 ?_)
  exact ⟨i + 1, ⟨by omega, by omega⟩, [_, _, _, _, _, _, _, _, _], (y0y 3 rfl (Cov.cons' (t := 4) rfl (by rw [x9x (by omega) (by omega)]; rfl) Cov.nil)), x6x, (HE.row rfl (by rw [z8z ha]) (HE.kill rfl (HE.kill rfl (HE.kill rfl (HE.kill rfl (HE.kill rfl (HE.kill rfl (HE.kill rfl (HE.kill rfl HE.nil))))))))), x4x, rfl⟩
 obtain ⟨r, hr⟩ := gE a.rules k
 have hro := (hap.2 k r hr).2.1.2.1
 refine dv 15 fun K K' => ?_
 refine y1y (id := 2) b8l rfl a1p rfl (dv 9 ?_)
 refine a1w p1p (zs := r.ops.map b4w) rfl rfl b8l rfl a1p rfl rfl rfl (z6z (fun _ => rfl) _) rfl (by (simp only [s3s, r0r, r5r, r8r, a0p, T297]; omega)) (Le.ow_map _ (fun _ => rfl) (fun _ => rfl)) ?_
 refine rlB c1m d5z ?_
 refine y2y (id := 4) d5w rfl c1m rfl rfl rfl rfl rfl rfl ?_
 refine y7y (zs := (a.rules.take k ++ [r]).map (d0a true)) rfl rfl d5w rfl c1m rfl rfl rfl rfl (by rfl) (z7z _ _ _) (by (simp only [s3s, r0r, r5r, r8r, a0p, T232]; omega)) ?_
 refine dv 4 ?_
 refine u1u rfl rfl rfl (dv 1 ?_)
 exact ⟨k + 1, ⟨by omega, by omega⟩, [0, 0, _, _, _, _, 0, 0, _], (Cov.cons' (t := 6) rfl (by rw [x9x (by omega) (by omega)]; rfl) Cov.nil), x6x, (HE.row rfl (by rw [z8z hr]) (HE.box rfl rfl (HE.kill rfl (HE.kill rfl (HE.kill rfl (HE.kill rfl HE.nil)))))), x4x, rfl⟩
end
section
theorem b9q (l : List Ap) (fA : a7w l) : Meth Tryz.prog 16 1 [] [a5p true l] [(0, (0, .dead))] (.agg [pI 0, a5p true l, .ref 0 0, .pv (.slice none 0 0), pI 0, .pv (.slice none 0 0), .pv (.slice none 0 0), .pv (.slice none 0 0), .pv (.slice none 0 0)]) [(0, (0, .row 65 13 ((b0u 3).map (u2u true))))] := by
 refine mX Tryz.f16 [.agg [pI 0, a5p true l, .ref 0 0, .pv (.slice none 0 0), pI 0, .pv (.slice none 0 0), .pv (.slice none 0 0), .pv (.slice none 0 0), .pv (.slice none 0 0)]] 1 4 fun γ => ?_
 have hb : ∀ a ∈ l, ∀ r ∈ a.rules, r.ops.length ≤ 1048576 := fun a ha r hr => by obtain ⟨i, hi⟩ := List.getElem?_of_mem hr; have := ((fA.2 a ha).2 i r hi).2.1.2.1; omega
 refine dv 1 ?_
 refine x2x (id := 1) b6x c0f rfl (dv 3 fun K K' => ?_)
 refine x0x rfl rfl rfl (b0m true l hb) (dc 1 (aI ?_ ?_))<;>intro hc2<;>try simp at hc2
 ·exact absurd fA (a1f (by simpa using hc2))
 refine dv 3 ?_
 refine x0x rfl rfl rfl (c6w true l fA) (rlB b6x c0f ?_)
 refine x2x (id := 2) b6x c0f rfl (dv 5 fun K K' => ?_)
 refine a0f 2 2 0 65 13 rfl rfl rfl rfl rfl ?_
 refine x5x (ι := Nat) (fun i γ1 => [(4, pI (i : Int))]) (fun i γ1 => [(0, ((γ1 0), .row 65 13 ((b0u i).map (u2u true)))), (2, ((0 + 1), .box 31 [pI 0, a5p true l, .ref 0 (γ1 0), .pv (.slice none 0 0), pI 0, .pv (.slice none 0 0), .pv (.slice none 0 0), .pv (.slice none 0 0), .pv (.slice none 0 0)])), (3, ((γ1 3), .dead)), (4, ((γ1 4), .dead))]) (fun i => i ≤ 3) (fun i => 3 - i) (q3q [2, 3] rfl) (w4w 1 rfl HE.nil) 0 (by omega) [_, 0, 0, _, _] x6x (HE.row rfl (by rfl) (HE.box rfl rfl (HE.kill rfl (HE.kill rfl HE.nil)))) rfl fun i γ1 hi => ?_
 refine dc 4 (fun K K' => aS ?_ ?_)<;>intro h<;>try simp at h
 ·obtain rfl : i = 3 := by omega
  refine dv 5 ?_
  exact ⟨[_], rfl, rfl, x4x⟩
 refine dv 7 fun K K' => ?_
 refine x0x rfl rfl rfl (c1x (i : Int)) ?_
 refine y2y (id := 3) a7p rfl u6u rfl rfl rfl rfl rfl rfl ?_
 refine y7y (zs := (b0u i ++ [a2f (i : Int)]).map (u2u true)) rfl rfl a7p rfl u6u rfl rfl rfl rfl (by rfl) (z7z _ _ _) (by (simp only [s3s, r0r, r5r, r8r, a0p, b0u, a2m, T65]; omega)) ?_
 refine dv 4 ?_
 refine u1u rfl rfl rfl (dv 1 ?_)
 exact ⟨i + 1, ⟨by omega, by omega⟩, [_, 0, 0, _, _], (Cov.cons' (t := 4) rfl (by rw [x9x (by omega) (by omega)]; rfl) Cov.nil), x6x, (HE.row rfl (by rw [d2r]) (HE.box rfl rfl (HE.kill rfl (HE.kill rfl HE.nil)))), x4x, rfl⟩
end
section
theorem b6m (bs : List Nat) (hbs : ∀ b ∈ bs, b < 256) (p0 most : Nat) (hp : p0 + 502 + 1040 * most ≤ 1000000) : MethE Tryz.prog 133 5 [.ptr 4 0 0, .pv (.int .i64 (most : Int))] [(0, (0, .dead)), (1, (0, .dead)), (2, (0, .dead)), (3, (0, .dead)), (4, (0, .box 243 [v4v true bs, .pv (.int .i64 ((p0 : Nat) : Int))]))] (ι := Sm) (fun S' => smOk S' (p0 + 502 + 1040 * most)) (fun S' => [4]) (fun S' => .ptr 0 0 0) (fun S' => [(0, (0, .box 171 [.ptr 4 0 0, pI S'.w.time, a5p true S'.w.apps, .ref 1 0, .ref 2 0, pI S'.w.hub.round, w7w true S'.w.hub.ones, w7w true S'.w.hub.twos, w7w true S'.w.hub.outs, q7q true S'.w.sink, .ref 3 0])), (1, (0, .row 65 13 ((S'.w.nodes).map (u2u true)))), (2, (0, .row 79 11 ((S'.w.radio).map (v8v true)))), (3, (0, .row 263 5 ((S'.list).map a4b))), (4, (0, .box 243 [v4v true bs, .pv (.int .i64 ((S'.p : Nat) : Int))]))]) := by
 refine mE (ι := Sm) Tryz.f133 (fun S' => [.ptr 0 0 0]) 5 1 fun γ => ?_
 refine dv 2 ?_
 refine a0d fun B X0 w0 => ?_
 refine txR 2 rfl rfl (dv 2 ?_)
 refine txM [4] [_] (c6v bs hbs p0 (by omega)) rfl rfl rfl rfl fun A hA => ?_
 obtain ⟨hA1, hA2⟩ := hA
 refine txR 4 rfl rfl ?_
 refine rlM [1] [_] (b9q A.1 hA1) rfl rfl rfl ?_
 refine rlB f4i f4m ?_
 refine x8x (id := 0) rfl rfl rfl (dv 1 ?_)
 refine u0u rfl (a0f 0 4 2 79 11 rfl rfl rfl rfl rfl (a0f 0 10 3 263 5 rfl rfl rfl rfl rfl ?_))
 refine d6l 0 rfl (.same (.same (.same (.same (.same (.same (.le (b := w7w true ([] : List Wo)) rfl .nil rfl (.le (b := w7w true ([] : List Wo)) rfl .nil rfl (.le (b := w7w true ([] : List Wo)) rfl .nil rfl (.le (b := q7q true ([] : List Ou)) rfl .nil rfl (LeCs.refl _))))))))))) ?_
 refine dv 1 ?_
 refine a0b (id := 5) a0l rfl s4s rfl rfl rfl rfl (.val rfl rfl (.val rfl rfl (.val rfl rfl (.val rfl rfl (.val rfl rfl .nil))))) rfl (a0g rfl) (a0g rfl) (a0g rfl) rfl rfl ?_
 refine dv 1 ?_
 refine rlM [4] [_] (x1x true bs (A.2) (5) (by have := hA2; omega) hbs) rfl rfl rfl ?_
 obtain ⟨z, ez, hz⟩ : ∃ z, pk bs A.2 5 = z ∧ z < 5 := ⟨_, rfl, a3f _ _ _ (by omega)⟩
 rw [ez]
 obtain ⟨odd, hodd⟩ : ∃ x, [0, 0, 3, 6, 12][z]? = some x := ⟨_, List.getElem?_eq_getElem hz⟩
 refine y3y (f := fun x : Nat => [pI (x : Int)]) (l := [0, 0, 3, 6, 12]) (j := z) rfl rfl a0l rfl s4s rfl rfl hz ?_
 refine a5x (f := fun x : Nat => [pI (x : Int)]) (l := [0, 0, 3, 6, 12]) rfl s4s rfl hodd rfl ?_
 refine dv 5 fun K K' => ?_
 refine rlM [4] [_] (x1x true bs (A.2 + 1) (most) (by have := hA2; omega) hbs) rfl rfl rfl ?_
 refine dv 1 ?_
 obtain ⟨N, eN, hN⟩ : ∃ N, pk bs (A.2 + 1) most = N ∧ N ≤ most := ⟨_, rfl, b2e _ _ _⟩
 rw [eN]
 refine dv 1 ?_
 refine x5x (ι := Sm × Nat) (fun p γ1 => [(7, pI (p.2 : Int))]) (fun p γ1 => [(1, ((γ1 1), .row 65 13 ((p.1.w.nodes).map (u2u true)))), (2, ((γ1 2), .row 79 11 ((p.1.w.radio).map (v8v true)))), (3, ((γ1 3), .row 263 5 ((p.1.list).map a4b))), (0, ((γ 0 + 1), .box 171 [.ptr 4 (γ 4) 0, pI p.1.w.time, a5p true p.1.w.apps, .ref 1 (γ1 1), .ref 2 (γ1 2), pI p.1.w.hub.round, w7w true p.1.w.hub.ones, w7w true p.1.w.hub.twos, w7w true p.1.w.hub.outs, q7q true p.1.w.sink, .ref 3 (γ1 3)])), (4, ((γ 4), .box 243 [v4v true bs, pI ((p.1.p : Nat) : Int)]))]) (fun p => smOk p.1 (p0 + 502 + 1040 * (N - p.2)) ∧ p.2 ≤ N) (fun p => p.2) (q3q [5, 6] rfl) (w4w 5 rfl HE.nil) ((⟨⟨0, A.1, b0u 3, [], hb0, []⟩, [], A.2 + 1 + 1⟩ : Sm), N) ⟨e8x hA1 (by show A.2 + 1 + 1 ≤ p0 + 502 + 1040 * (N - N); omega), Nat.le_refl _⟩ [0, _, _, _] x6x x4x rfl fun p γ1 hi => ?_
 obtain ⟨S1, i⟩ := p
 obtain ⟨h1, h2⟩ := hi
 dsimp only at h1 h2 ⊢
 refine dc 4 (fun K K' => aS ?_ ?_)<;>intro h<;>try simp at h
 ·refine dv 5 ?_
  exact ⟨S1, h1.mono (by omega), [_, _, _, _, γ 4], rfl, rfl, x4x⟩
 obtain ⟨i', rfl⟩ : ∃ i', i = i' + 1 := ⟨i - 1, by omega⟩
 refine dv 3 fun K K' => ?_
 refine a8m fun B X0 w0 => ?_
 refine txR 2 rfl rfl (dv 2 ?_)
 refine txM [0, 1, 2, 3, 4] [_, _, _, _, _] (b9p bs hbs S1 (p0 + 502 + 1040 * (N - (i' + 1))) h1 odd (by omega)) rfl rfl rfl rfl fun j hj => ?_
 refine u0u rfl (dv 2 ?_)
 refine w6w (b := 1) rfl rfl (by omega) (by omega) (dv 1 ?_)
 exact ⟨(j, i'), ⟨⟨hj.mono (by show _ ≤ p0 + 502 + 1040 * (N - i'); omega), by show i' ≤ N; omega⟩, (by show i' < i' + 1; omega)⟩, [0, _, _, _], x6x, x6x, x4x, x4x, rfl⟩
end
section
theorem c6x (bs : List Nat) (hbs : ∀ b ∈ bs, b < 256) (p0 : Nat) (hp : p0 + 502 + 1040 * 14 ≤ 1000000) : MethE Tryz.prog 225 1 [.ptr 0 0 0] [(0, (0, .box 243 [v4v true bs, .pv (.int .i64 ((p0 : Nat) : Int))]))] (ι := Sm × Nd) (fun S' => smOk S'.1 (p0 + 503 + 1040 * 14) ∧ S'.2 ∈ S'.1.w.nodes) (fun S' => [0]) (fun S' => .tup [.agg (d4x true S'.1.w), .agg (u2u true S'.2)]) (fun S' => [(0, (0, .box 243 [v4v true bs, .pv (.int .i64 ((S'.1.p : Nat) : Int))]))]) := by
 refine mE (ι := Sm × Nd) Tryz.f225 (fun S' => [.agg (d4x true S'.1.w), .agg (u2u true S'.2)]) 1 7 fun γ => ?_
 refine dv 1 ?_
 refine x2x (id := 1) b6x c0f rfl (x2x (id := 2) u6u p9p rfl (a0d fun B X0 w0 => ?_))
 refine txR 1 rfl rfl (dv 1 ?_)
 refine txM [4, 5, 6, 7, 0] [_, _, _, _, _] (b6m bs hbs p0 14 hp) rfl rfl rfl rfl fun S hS => ?_
 refine txR 5 rfl rfl (dv 3 ?_)
 refine x2x (id := 3) b6x c0f rfl (dv 1 ?_)
 refine u0u rfl (dv 5 ?_)
 refine rlM [0] [_] (x1x true bs (S.p) (3) (by have := hS.2.2; omega) hbs) rfl rfl rfl ?_
 obtain ⟨z, ez, hz⟩ : ∃ z, pk bs S.p 3 = z ∧ z < 3 := ⟨_, rfl, a3f _ _ _ (by omega)⟩
 rw [ez]
 obtain ⟨n, hnd, hnI⟩ := b1a hS.1 (i := z) (by omega)
 refine y3y (j := z) rfl rfl a7p rfl u6u rfl rfl (z0z hnd) ?_
 refine s7s rfl u6u rfl (by assumption) rfl rfl ?_
 refine dv 2 ?_
 refine v5v (b := f2r true S.w.nodes) 1 2 rfl rfl rfl (.ref rfl (Le.ow_map _ (fun _ => rfl) (fun _ => rfl)) .nil) rfl rfl rfl rfl ?_
 refine v5v (b := w7w true S.w.radio) 1 3 rfl rfl rfl (.ref rfl (Le.ow_map _ (fun _ => rfl) (fun _ => rfl)) .nil) rfl rfl rfl rfl ?_
 refine dv 1 ?_
 exact ⟨(pSm S (S.p + 1), n), ⟨a3j hS (by omega) (by have := hS.2.2; omega), List.mem_of_getElem? hnd⟩, [γ 0], rfl, rfl, x4x⟩
end
section
theorem a6k (bs : List Nat) (hbs : ∀ b ∈ bs, b < 256) (p0 : Nat) (hp : p0 + 10 ≤ 100000000) : MethE Tryz.prog 216 1 [.ptr 0 0 0] [(0, (0, .box 243 [v4v true bs, .pv (.int .i64 ((p0 : Nat) : Int))]))] (ι := Ev × Nat) (fun S' => S'.2 ≤ p0 + 10) (fun S' => [0]) (fun S' => .agg (y8y S'.1)) (fun S' => [(0, (0, .box 243 [v4v true bs, .pv (.int .i64 ((S'.2 : Nat) : Int))]))]) := by
 refine mE (ι := Ev × Nat) Tryz.f216 (fun S' => [.agg (y8y S'.1)]) 1 5 fun γ => ?_
 refine dv 1 ?_
 refine x2x (id := 1) z2z a6n rfl (dv 2 ?_)
 refine rlM [0] [_] (x1x true bs (p0) (41) (by have := hp; omega) hbs) rfl rfl rfl ?_
 refine dv 1 ?_
 refine rlM [0] [_] (x1x true bs (p0 + 1) (4) (by have := hp; omega) hbs) rfl rfl rfl ?_
 refine dv 1 ?_
 refine rlM [0] [_] (x1x true bs (p0 + 1 + 1) (5) (by have := hp; omega) hbs) rfl rfl rfl ?_
 have h5 := a3f bs (p0 + 1 + 1) 5 (by omega)
 refine r1r (.int .i64 ((pk bs (p0 + 1 + 1) 5 : Int) - 1)) rfl rfl rfl (a6o rfl (by omega) (by omega) (by omega)) ?_
 refine dv 1 ?_
 refine rlM [0] [_] (x1x true bs (p0 + 1 + 1 + 1) (13) (by have := hp; omega) hbs) rfl rfl rfl ?_
 refine dv 1 ?_
 refine rlM [0] [_] (x1x true bs (p0 + 1 + 1 + 1 + 1) (3) (by have := hp; omega) hbs) rfl rfl rfl ?_
 refine dv 1 ?_
 refine rlM [0] [_] (x1x true bs (p0 + 1 + 1 + 1 + 1 + 1) (3) (by have := hp; omega) hbs) rfl rfl rfl ?_
 refine dv 1 ?_
 refine rlM [0] [_] (x1x true bs (p0 + 1 + 1 + 1 + 1 + 1 + 1) (40) (by have := hp; omega) hbs) rfl rfl rfl ?_
 refine rlB z2z a6n ?_
 refine x2x (id := 2) z2z a6n rfl (dv 1 ?_)
 refine w8w (ι := Ev × Nat) (fun s γ1 => []) (fun s γ1 => [(0, ((γ 0), .box 243 [v4v true bs, pI ((s.2 : Nat) : Int)])), (2, ((0 + 1), .box 56 (y8y s.1))), (3, ((γ1 3), .dead)), (4, ((γ1 4), .dead)), (5, ((γ1 5), .dead))]) (fun s => s.2 ≤ p0 + 10) (q3q [2, 3] rfl) (w4w 1 rfl HE.nil) ?_ fun s γ1 hi => ?_
 ·refine dv 2 ?_
  refine rlM [0] [_] (x1x true bs (p0 + 1 + 1 + 1 + 1 + 1 + 1 + 1) (20) (by have := hp; omega) hbs) rfl rfl rfl ?_
  refine dc 4 (aI ?_ ?_)<;>intro h<;>try simp at h
  ·refine dv 1 ?_
   refine a0b (id := 3) a0l rfl s4s rfl rfl rfl rfl (.val rfl rfl (.val rfl rfl (.val rfl rfl .nil))) rfl (a0g rfl) (a0g rfl) (a0g rfl) rfl rfl ?_
   refine dv 1 ?_
   refine rlM [0] [_] (x1x true bs (p0 + 1 + 1 + 1 + 1 + 1 + 1 + 1 + 1) (3) (by have := hp; omega) hbs) rfl rfl rfl ?_
   obtain ⟨z, ez, hz⟩ : ∃ z, pk bs (p0 + 1 + 1 + 1 + 1 + 1 + 1 + 1 + 1) 3 = z ∧ z < 3 := ⟨_, rfl, a3f _ _ _ (by omega)⟩
   rw [ez]
   obtain ⟨v, hv⟩ : ∃ x, ([-1, 40, 41] : List Int)[z]? = some x := ⟨_, List.getElem?_eq_getElem hz⟩
   refine y3y (f := fun x : Int => [pI x]) (l := [-1, 40, 41]) (j := z) rfl rfl a0l rfl s4s rfl rfl hz ?_
   refine a5x (f := fun x : Int => [pI x]) (l := [-1, 40, 41]) rfl s4s rfl hv rfl ?_
   refine dv 2 ?_
   exact ⟨({ (⟨(pk bs (p0) 41 : Int), (pk bs (p0 + 1) 4 : Int), (pk bs (p0 + 1 + 1) 5 : Int) - 1, (pk bs (p0 + 1 + 1 + 1) 13 : Int), (pk bs (p0 + 1 + 1 + 1 + 1) 3 : Int), (pk bs (p0 + 1 + 1 + 1 + 1 + 1) 3 : Int), (pk bs (p0 + 1 + 1 + 1 + 1 + 1 + 1) 40 : Int)⟩ : Ev) with time := v }, p0 + 1 + 1 + 1 + 1 + 1 + 1 + 1 + 1 + 1), (by show p0 + 1 + 1 + 1 + 1 + 1 + 1 + 1 + 1 + 1 ≤ _; omega), [0, 0, 0, _, _, _], x6x, x6x, x4x, x4x, rfl⟩
  refine dc 3 (aI ?_ ?_)<;>intro h<;>try simp at h
  ·refine dv 1 ?_
   refine a0b (id := 4) a0l rfl s4s rfl rfl rfl rfl (.val rfl rfl (.val rfl rfl .nil)) rfl (a0g rfl) (a0g rfl) (a0g rfl) rfl rfl ?_
   refine dv 1 ?_
   refine rlM [0] [_] (x1x true bs (p0 + 1 + 1 + 1 + 1 + 1 + 1 + 1 + 1) (2) (by have := hp; omega) hbs) rfl rfl rfl ?_
   obtain ⟨z, ez, hz⟩ : ∃ z, pk bs (p0 + 1 + 1 + 1 + 1 + 1 + 1 + 1 + 1) 2 = z ∧ z < 2 := ⟨_, rfl, a3f _ _ _ (by omega)⟩
   rw [ez]
   obtain ⟨v, hv⟩ : ∃ x, ([-1, 4] : List Int)[z]? = some x := ⟨_, List.getElem?_eq_getElem hz⟩
   refine y3y (f := fun x : Int => [pI x]) (l := [-1, 4]) (j := z) rfl rfl a0l rfl s4s rfl rfl hz ?_
   refine a5x (f := fun x : Int => [pI x]) (l := [-1, 4]) rfl s4s rfl hv rfl ?_
   refine dv 2 ?_
   exact ⟨({ (⟨(pk bs (p0) 41 : Int), (pk bs (p0 + 1) 4 : Int), (pk bs (p0 + 1 + 1) 5 : Int) - 1, (pk bs (p0 + 1 + 1 + 1) 13 : Int), (pk bs (p0 + 1 + 1 + 1 + 1) 3 : Int), (pk bs (p0 + 1 + 1 + 1 + 1 + 1) 3 : Int), (pk bs (p0 + 1 + 1 + 1 + 1 + 1 + 1) 40 : Int)⟩ : Ev) with to := v }, p0 + 1 + 1 + 1 + 1 + 1 + 1 + 1 + 1 + 1), (by show p0 + 1 + 1 + 1 + 1 + 1 + 1 + 1 + 1 + 1 ≤ _; omega), [0, 0, 0, _, _, _], x6x, x6x, x4x, x4x, rfl⟩
  refine dc 3 (aS ?_ ?_)<;>intro h<;>try simp at h
  ·refine dv 1 ?_
   exact ⟨((⟨(pk bs (p0) 41 : Int), (pk bs (p0 + 1) 4 : Int), (pk bs (p0 + 1 + 1) 5 : Int) - 1, (pk bs (p0 + 1 + 1 + 1) 13 : Int), (pk bs (p0 + 1 + 1 + 1 + 1) 3 : Int), (pk bs (p0 + 1 + 1 + 1 + 1 + 1) 3 : Int), (pk bs (p0 + 1 + 1 + 1 + 1 + 1 + 1) 40 : Int)⟩ : Ev), p0 + 1 + 1 + 1 + 1 + 1 + 1 + 1 + 1), (by show p0 + 1 + 1 + 1 + 1 + 1 + 1 + 1 + 1 ≤ _; omega), [0, 0, 0, _, _, _], x6x, x6x, x4x, x4x, rfl⟩
  refine dv 1 ?_
  refine a0b (id := 5) a0l rfl s4s rfl rfl rfl rfl (.val rfl rfl (.val rfl rfl (.val rfl rfl .nil))) rfl (a0g rfl) (a0g rfl) (a0g rfl) rfl rfl ?_
  refine dv 1 ?_
  refine rlM [0] [_] (x1x true bs (p0 + 1 + 1 + 1 + 1 + 1 + 1 + 1 + 1) (3) (by have := hp; omega) hbs) rfl rfl rfl ?_
  obtain ⟨z, ez, hz⟩ : ∃ z, pk bs (p0 + 1 + 1 + 1 + 1 + 1 + 1 + 1 + 1) 3 = z ∧ z < 3 := ⟨_, rfl, a3f _ _ _ (by omega)⟩
  rw [ez]
  obtain ⟨v, hv⟩ : ∃ x, ([-1, 999, 1000] : List Int)[z]? = some x := ⟨_, List.getElem?_eq_getElem hz⟩
  refine y3y (f := fun x : Int => [pI x]) (l := [-1, 999, 1000]) (j := z) rfl rfl a0l rfl s4s rfl rfl hz ?_
  refine a5x (f := fun x : Int => [pI x]) (l := [-1, 999, 1000]) rfl s4s rfl hv rfl ?_
  refine dv 2 ?_
  exact ⟨({ (⟨(pk bs (p0) 41 : Int), (pk bs (p0 + 1) 4 : Int), (pk bs (p0 + 1 + 1) 5 : Int) - 1, (pk bs (p0 + 1 + 1 + 1) 13 : Int), (pk bs (p0 + 1 + 1 + 1 + 1) 3 : Int), (pk bs (p0 + 1 + 1 + 1 + 1 + 1) 3 : Int), (pk bs (p0 + 1 + 1 + 1 + 1 + 1 + 1) 40 : Int)⟩ : Ev) with arg := v }, p0 + 1 + 1 + 1 + 1 + 1 + 1 + 1 + 1 + 1), (by show p0 + 1 + 1 + 1 + 1 + 1 + 1 + 1 + 1 + 1 ≤ _; omega), [0, 0, 0, _, _, _], x6x, x6x, x4x, x4x, rfl⟩
 ·try dsimp only [a9u, a9v]
  refine dv 4 ?_
  exact ⟨s, hi, [γ 0], rfl, rfl, x4x⟩
theorem d0s (bs : List Nat) (hbs : ∀ b ∈ bs, b < 256) (p0 : Nat) (hp : p0 + 10 ≤ 100000000) : MethE Tryz.prog 226 1 [.ptr 0 0 0] [(0, (0, .box 243 [v4v true bs, .pv (.int .i64 ((p0 : Nat) : Int))]))] (ι := Ou × Nat) (fun S' => S'.2 ≤ p0 + 5) (fun S' => [0]) (fun S' => .agg (w3w S'.1)) (fun S' => [(0, (0, .box 243 [v4v true bs, .pv (.int .i64 ((S'.2 : Nat) : Int))]))]) := by
 refine mE (ι := Ou × Nat) Tryz.f226 (fun S' => [.agg (w3w S'.1)]) 1 1 fun γ => ?_
 refine dv 1 ?_
 refine x2x (id := 1) z9z b8m rfl (dv 2 ?_)
 refine rlM [0] [_] (x1x true bs (p0) (6) (by have := hp; omega) hbs) rfl rfl rfl ?_
 refine dv 1 ?_
 refine rlM [0] [_] (x1x true bs (p0 + 1) (4) (by have := hp; omega) hbs) rfl rfl rfl ?_
 refine dv 1 ?_
 refine rlM [0] [_] (x1x true bs (p0 + 1 + 1) (3) (by have := hp; omega) hbs) rfl rfl rfl ?_
 refine dv 1 ?_
 refine rlM [0] [_] (x1x true bs (p0 + 1 + 1 + 1) (2) (by have := hp; omega) hbs) rfl rfl rfl ?_
 refine dv 1 ?_
 refine rlM [0] [_] (x1x true bs (p0 + 1 + 1 + 1 + 1) (4) (by have := hp; omega) hbs) rfl rfl rfl ?_
 refine rlB z9z b8m ?_
 refine dv 2 ?_
 exact ⟨((⟨(pk bs (p0) 6 : Int), (pk bs (p0 + 1) 4 : Int), (pk bs (p0 + 1 + 1) 3 : Int), (pk bs (p0 + 1 + 1 + 1) 2 : Int), (pk bs (p0 + 1 + 1 + 1 + 1) 4 : Int)⟩ : Ou), p0 + 1 + 1 + 1 + 1 + 1), (by show p0 + 1 + 1 + 1 + 1 + 1 ≤ _; omega), [γ 0], rfl, rfl, x4x⟩
theorem c2b (bs : List Nat) (hbs : ∀ b ∈ bs, b < 256) (p0 m : Nat) (hm : m ≤ 1000) (hp : p0 + 1 + 13 * m ≤ 100000000) : MethE Tryz.prog 227 1 [.ptr 0 0 0, .pv (.int .i64 (m : Int))] [(0, (0, .box 243 [v4v true bs, .pv (.int .i64 ((p0 : Nat) : Int))]))] (ι := List Ev × Nat) (fun S' => S'.1.length ≤ m ∧ S'.2 ≤ p0 + 1 + 13 * m) (fun S' => [0]) (fun S' => s1s true S'.1) (fun S' => [(0, (0, .box 243 [v4v true bs, .pv (.int .i64 ((S'.2 : Nat) : Int))]))]) := by
 refine mE (ι := List Ev × Nat) Tryz.f227 (fun S' => [s1s true S'.1]) 1 4 fun γ => ?_
 refine dv 3 ?_
 refine y1y (id := 1) u4u rfl z2z rfl (dv 5 fun K K' => ?_)
 refine rlM [0] [_] (x1x true bs (p0) (m) (by have := hp; omega) hbs) rfl rfl rfl ?_
 refine dv 1 ?_
 obtain ⟨N, eN, hN⟩ : ∃ N, pk bs p0 m = N ∧ N ≤ m := ⟨_, rfl, b2e _ _ _⟩
 rw [eN]
 refine dv 1 ?_
 refine x5x (ι := List Ev × Nat × Nat) (fun p γ1 => [(5, .ref 1 (γ1 1)), (6, pI (p.2.2 : Int))]) (fun p γ1 => [(1, ((γ1 1), .row 56 7 ((p.1).map y8y))), (0, ((γ 0), .box 243 [v4v true bs, pI ((p.2.1 : Nat) : Int)])), (2, ((γ1 2), .dead)), (3, ((γ1 3), .dead)), (4, ((γ1 4), .dead))]) (fun p => p.1.length + p.2.2 ≤ N ∧ p.2.1 + 13 * p.2.2 ≤ p0 + 1 + 13 * N) (fun p => p.2.2) (y0y 0 rfl Cov.nil) HE.nil ([], p0 + 1, N) ⟨Nat.le_of_eq (Nat.zero_add _), Nat.le_refl _⟩ [0, _, _, _, _] x6x (HE.row rfl (by rfl) (HE.box rfl rfl (HE.kill rfl (HE.kill rfl (HE.kill rfl HE.nil))))) rfl fun p γ1 hi => ?_
 obtain ⟨l, q, n⟩ := p
 obtain ⟨h1, h2⟩ := hi
 dsimp only at h1 h2 ⊢
 refine dc 4 (fun K K' => aS ?_ ?_)<;>intro h<;>try simp at h
 ·refine dv 1 ?_
  refine w5w (f := y8y) 5 rfl rfl (fun _ => rfl) ?_
  refine dv 4 ?_
  exact ⟨(l, q), ⟨by show l.length ≤ m; omega, by show q ≤ p0 + 1 + 13 * m; omega⟩, [γ 0], rfl, rfl, x4x⟩
 obtain ⟨n', rfl⟩ : ∃ n', n = n' + 1 := ⟨n - 1, by omega⟩
 refine dv 3 fun K K' => ?_
 refine a0d fun B X0 w0 => ?_
 refine txR 1 rfl rfl (dv 1 ?_)
 refine txM [0] [_] (a6k bs hbs q (by omega)) rfl rfl rfl rfl fun e he => ?_
 refine txR 2 rfl rfl (x2x (id := 2) z2z a6n rfl (dv 1 ?_))
 refine u0u rfl ?_
 refine w8w (ι := Ev × Nat) (fun s γ2 => []) (fun s γ2 => [(0, ((γ 0), .box 243 [v4v true bs, pI ((s.2 : Nat) : Int)])), (2, ((γ1 2 + 1), .box 56 (y8y s.1)))]) (fun s => s.2 ≤ q + 13) (q3q [0, 5, 6, 7] rfl) (a0j [1, 3, 4] rfl) ?_ fun s γ2 hi => ?_
 ·refine dv 2 ?_
  refine a3y (n := l.length) rfl u4u rfl rfl (List.length_map _) ?_
  refine dc 2 (aS ?_ ?_)<;>intro h<;>try simp at h
  ·refine dv 5 ?_
   exact ⟨(e.1, e.2), (by show e.2 ≤ _; omega), [], x6x, x6x, x4x, x4x, rfl⟩
  refine dv 1 ?_
  refine rlM [0] [_] (x1x true bs (e.2) (4) (by have := he; omega) hbs) rfl rfl rfl ?_
  refine dc 2 (aS ?_ ?_)<;>intro h<;>try simp at h
  ·refine dv 1 ?_
   exact ⟨(e.1, e.2 + 1), (by show e.2 + 1 ≤ _; omega), [], x6x, x6x, x4x, x4x, rfl⟩
  refine dv 4 ?_
  refine a3y (n := l.length) rfl u4u rfl rfl (List.length_map _) ?_
  refine rlM [0] [_] (x1x true bs (e.2 + 1) (l.length) (by have := he; omega) hbs) rfl rfl rfl ?_
  obtain ⟨z, ez, hz⟩ : ∃ z, pk bs (e.2 + 1) l.length = z ∧ z < l.length := ⟨_, rfl, a3f _ _ _ (by omega)⟩
  rw [ez]
  obtain ⟨v, hv⟩ : ∃ v, l[z]? = some v := ⟨_, List.getElem?_eq_getElem hz⟩
  refine y3y (j := z) rfl rfl u4u rfl z2z rfl rfl hz ?_
  refine s7s rfl z2z rfl (by assumption) rfl rfl ?_
  refine dv 3 ?_
  refine rlM [0] [_] (x1x true bs (e.2 + 1 + 1) (3) (by have := he; omega) hbs) rfl rfl rfl ?_
  refine dv 2 ?_
  exact ⟨({ v with n := (pk bs (e.2 + 1 + 1) 3 : Int) }, e.2 + 1 + 1 + 1), (by show e.2 + 1 + 1 + 1 ≤ _; omega), [], x6x, x6x, x4x, x4x, rfl⟩
 ·try dsimp only [a9u, a9v]
  refine dv 3 ?_
  refine y2y (id := 3) u4u rfl z2z rfl rfl rfl rfl rfl rfl ?_
  refine y7y (zs := (l ++ [s.1]).map y8y) rfl rfl u4u rfl z2z rfl rfl rfl rfl (by rfl) (z7z y8y l s.1) (by (simp only [s3s, r0r, r5r, r8r, a0p, a2m, T56]; omega)) ?_
  refine dv 3 ?_
  refine w6w (b := 1) rfl rfl (by omega) (by omega) (dv 1 ?_)
  exact ⟨(l ++ [s.1], s.2, n'), ⟨⟨by show (l ++ [s.1]).length + n' ≤ N; rw [List.length_append]; show l.length + 1 + n' ≤ N; omega, by show s.2 + 13 * n' ≤ _; omega⟩, (by show n' < n' + 1; omega)⟩, [0, _, _, _, _], x6x, x6x, (HE.row rfl (by rfl) (HE.box rfl rfl (HE.kill rfl (HE.kill rfl (HE.kill rfl HE.nil))))), x4x, rfl⟩
end
section
theorem c1f (c : Bool) (n : Nd) (hl : n.lanes.length ≤ 1000000) (hk : n.kept.length ≤ 1000000) (ho : n.outs.length ≤ 1000000) (hd : ∀ l ∈ n.lanes, lb l) : Meth Tryz.prog 155 5 [] [.agg (u2u c n)] [(0, (0, .dead)), (1, (0, .dead)), (2, (0, .dead)), (3, (0, .dead)), (4, (0, .dead))] (.agg [pI n.id, .pv (.bool n.up), pI n.inc, pI n.g, .ref 0 0, .ref 3 0, .ref 4 0, pI n.led, pI 0, .ref 1 0, .ref 2 0, pI 0, pI 41]) [(0, (0, .row 44 5 ((n.lanes.map r3r).map (q1q true)))), (1, (0, .row 190 3 ([vi0, vi0, vi0].map (a2l true)))), (2, (0, .row 3 1 ([0, 0, 0].map a3i))), (3, (0, .row 56 7 ((n.kept).map y8y))), (4, (0, .row 141 5 ((n.outs).map w3w)))] := by
 refine mX Tryz.f155 [.agg [pI n.id, .pv (.bool n.up), pI n.inc, pI n.g, .ref 0 0, .ref 3 0, .ref 4 0, pI n.led, pI 0, .ref 1 0, .ref 2 0, pI 0, pI 41]] 5 11 fun γ => ?_
 refine dv 1 ?_
 refine x8x (id := 5) rfl rfl rfl (x2x (id := 6) u6u p9p rfl (dv 9 ?_))
 refine y1y (id := 3) u4u rfl z2z rfl (dv 2 ?_)
 refine w2w (zs := (n.kept).map y8y) rfl rfl u4u rfl z2z rfl rfl rfl (z6z (fun _ => rfl) _) rfl (by (simp only [s3s, r0r, r5r, r8r, a0p, a2m, b3h, T56]; omega)) ?_
 refine y1y (id := 4) p5p rfl z9z rfl (dv 2 ?_)
 refine w2w (zs := (n.outs).map w3w) rfl rfl p5p rfl z9z rfl rfl rfl (z6z (fun _ => rfl) _) rfl (by (simp only [s3s, r0r, r5r, r8r, a0p, a2m, b3h, T141]; omega)) ?_
 refine dv 2 ?_
 refine rlB u6u p9p ?_
 refine x2x (id := 9) u6u p9p rfl (dv 5 fun K K' => ?_)
 refine a0f 9 4 0 44 5 rfl rfl rfl rfl rfl ?_
 refine x5x (ι := Nat) (fun i γ1 => [(4, pI (i : Int))]) (fun i γ1 => [(0, ((γ1 0), .row 44 5 (((n.lanes.take i).map r3r).map (q1q true)))), (9, ((0 + 1), .box 65 [pI n.id, .pv (.bool n.up), pI n.inc, pI n.g, .ref 0 (γ1 0), .ref 3 (γ 3 + 1 + 1), .ref 4 (γ 4 + 1 + 1), pI n.led, pI 0, .pv (.slice none 0 0), .pv (.slice none 0 0), pI 0, pI 41])), (10, ((γ1 10), .dead)), (11, ((γ1 11), .dead))]) (fun i => i ≤ n.lanes.length) (fun i => n.lanes.length - i) (q3q [1, 2, 3] rfl) (a0j [1, 2, 3, 4, 5, 6, 7, 8, 12, 13, 14, 15] rfl) 0 (by omega) [_, 0, 0, 0, 0, 0, 0, 0, 0, 0, _, _] x6x (HE.row rfl (by rw [List.take_zero]; rfl) (HE.box rfl rfl (HE.kill rfl (HE.kill rfl HE.nil)))) rfl fun i γ1 hi => ?_
 refine dc 7 (fun K K' => aI ?_ ?_)<;>intro o<;>try simp at o
 ·obtain ⟨a, ha⟩ := gE n.lanes i
  have had := hd a (List.mem_of_getElem? ha)
  refine dv 11 fun K K' => ?_
  refine x0x rfl rfl rfl (a3o c a 0 0 had.1 (by omega) (by omega) had.2) ?_
  refine y2y (id := 10) a8c rfl a0k rfl rfl rfl rfl rfl rfl ?_
  refine y7y (zs := ((n.lanes.take i).map r3r ++ [r3r a]).map (q1q true)) rfl rfl a8c rfl a0k rfl rfl rfl rfl (by rfl) (z7z _ _ _) (by (simp only [s3s, r0r, r5r, r8r, a0p, a2m, b3h, T44]; omega)) ?_
  refine dv 4 ?_
  refine u1u rfl rfl rfl (dv 1 ?_)
  exact ⟨i + 1, ⟨by omega, by omega⟩, [_, 0, 0, 0, 0, 0, 0, 0, 0, 0, _, _], (Cov.cons' (t := 4) rfl (by rw [x9x (by omega) (by omega)]; rfl) Cov.nil), x6x, (HE.row rfl (by simp only [z8z ha, List.map_append, List.map_cons, List.map_nil]) (HE.box rfl rfl (HE.kill rfl (HE.kill rfl HE.nil)))), x4x, rfl⟩
 obtain rfl : i = n.lanes.length := by omega
 refine dv 5 fun K K' => ?_
 refine a0f 9 9 1 190 3 rfl rfl rfl rfl rfl (a0f 9 10 2 3 1 rfl rfl rfl rfl rfl ?_)
 refine x5x (ι := Nat) (fun i γ2 => [(5, pI (i : Int))]) (fun i γ2 => [(1, ((γ2 1), .row 190 3 ((List.range i).map fun _ => b3o))), (2, ((γ2 2), .row 3 1 ((List.range i).map fun _ => a3i 0))), (9, ((0 + 1), .box 65 [pI n.id, .pv (.bool n.up), pI n.inc, pI n.g, .ref 0 (γ1 0), .ref 3 (γ 3 + 1 + 1), .ref 4 (γ 4 + 1 + 1), pI n.led, pI 0, .ref 1 (γ2 1), .ref 2 (γ2 2), pI 0, pI 41])), (12, ((γ2 12), .dead)), (13, ((γ2 13), .dead)), (14, ((γ2 14), .dead)), (15, ((γ2 15), .dead))]) (fun i => i ≤ 3) (fun i => 3 - i) (q3q [2, 3] rfl) (a0j [0, 3, 4, 5, 6, 7, 8, 10, 11] rfl) 0 (by omega) [0, _, _, 0, 0, 0, 0, 0, 0, 0, 0, 0, _, _, _, _] x6x x4x rfl fun i γ2 hi => ?_
 refine dc 4 (fun K K' => aS ?_ ?_)<;>intro o<;>try simp at o
 ·obtain rfl : i = 3 := by omega
  rw [List.take_length]
  refine dv 4 ?_
  refine d1x (f := fun _ => b3o) (f' := fun _ => a2l true vi0) (l := List.range 3) 1 rfl (fun _ => .same (.same (.le rfl .nil rfl .nil))) ?_
  refine dv 1 ?_
  exact ⟨[_, _, _, _, _], rfl, rfl, x4x⟩
 refine dv 6 fun K K' => ?_
 refine rlB s5s a6q ?_
 refine y2y (id := 12) a9w rfl s5s rfl rfl rfl rfl rfl rfl ?_
 refine y7y (zs := (List.range i).map (fun _ => b3o) ++ [b3o]) rfl rfl a9w rfl s5s rfl rfl rfl rfl (by rfl) rfl (by (simp only [s3s, r0r, r5r, r8r, a0p, a2m, b3h, T190]; omega)) ?_
 refine dv 5 ?_
 refine b1m (id := 14) a0l rfl s4s rfl rfl rfl rfl rfl ?_
 refine y7y (zs := (List.range i).map (fun _ => a3i 0) ++ [a3i 0]) rfl rfl a0l rfl s4s rfl rfl rfl rfl (by rfl) rfl (by (simp only [s3s, r0r, r5r, r8r, a0p, a2m, b3h, T3]; omega)) ?_
 refine dv 4 ?_
 refine u1u rfl rfl rfl (dv 1 ?_)
 exact ⟨i + 1, ⟨by omega, by omega⟩, [0, _, _, 0, 0, 0, 0, 0, 0, 0, 0, 0, _, _, _, _], (Cov.cons' (t := 5) rfl (by rw [x9x (by omega) (by omega)]; rfl) Cov.nil), x6x, (HE.row rfl (by rw [List.range_succ, List.map_append]; rfl) (HE.row rfl (by rw [List.range_succ, List.map_append]; rfl) (HE.box rfl rfl (HE.kill rfl (HE.kill rfl (HE.kill rfl (HE.kill rfl HE.nil))))))), x4x, rfl⟩
theorem c2d (c : Bool) (n : Nd) (h : nb n) : Meth Tryz.prog 161 5 [] [.agg (u2u c n)] [(0, (0, .dead)), (1, (0, .dead)), (2, (0, .dead)), (3, (0, .dead)), (4, (0, .dead))] (.agg [pI n.id, .pv (.bool n.up), pI n.inc, pI n.g, .ref 0 0, .ref 3 0, .ref 4 0, pI n.led, pI n.version, .ref 1 0, .ref 2 0, pI n.round, pI n.low]) [(0, (0, .row 44 5 ((n.lanes).map a5j))), (1, (0, .row 190 3 ((n.views).map (a2l true)))), (2, (0, .row 3 1 (n.known.map a3i))), (3, (0, .row 56 7 ((n.kept).map y8y))), (4, (0, .row 141 5 ((n.outs).map w3w)))] := by
 refine mX Tryz.f161 [.agg [pI n.id, .pv (.bool n.up), pI n.inc, pI n.g, .ref 0 0, .ref 3 0, .ref 4 0, pI n.led, pI n.version, .ref 1 0, .ref 2 0, pI n.round, pI n.low]] 5 11 fun γ => ?_
 obtain ⟨b1, b2, b3, b4, b5, b6, b7⟩ := h
 refine dv 1 ?_
 refine x8x (id := 5) rfl rfl rfl (x2x (id := 6) u6u p9p rfl (dv 2 ?_))
 refine rlM [0, 13, 14, 3, 4] [_, _, _, _, _] (c1f c n b1 b2 b3 b4) rfl rfl rfl ?_
 refine x2x (id := 7) u6u p9p rfl (dv 5 fun K K' => ?_)
 refine x5x (ι := Nat) (fun i γ1 => [(4, pI (i : Int))]) (fun i γ1 => [(15, ((γ1 15), .dead)), (0, ((γ 0 + 1), .row 44 5 ((n.lanes.take i).map a5j ++ ((n.lanes.drop i).map r3r).map (q1q true))))]) (fun i => i ≤ n.lanes.length) (fun i => n.lanes.length - i) (q3q [1, 2, 3] rfl) (a0j [1, 2, 3, 4, 5, 6, 7, 8, 9, 10, 11, 12, 13, 14] rfl) 0 (by omega) [0, 0, 0, 0, 0, 0, 0, 0, 0, 0, 0, 0, 0, 0, 0, _] x6x (HE.kill rfl (HE.row rfl (by rw [List.take_zero, List.drop_zero]; rfl) HE.nil)) rfl fun i γ1 hi => ?_
 refine dc 7 (fun K K' => aI ?_ ?_)<;>intro o<;>try simp at o
 ·obtain ⟨p, hp⟩ := gE n.lanes i
  have hpl := b4 p (List.mem_of_getElem? hp)
  have hAl : ((n.lanes.take i).map a5j).length = i := by rw [List.length_map, List.length_take]; omega
  rw [p6p hp, List.map_cons, List.map_cons]
  refine dv 19 fun K K' => ?_
  refine rlM [15] [_] (b3q c p 0 p.done.length hpl.1 (by omega) hpl.1 hpl.2) rfl rfl rfl ?_
  refine b4h rfl rfl a8c rfl a0k rfl rfl hAl (b1n hAl rfl rfl a0k rfl rfl rfl rfl (.val rfl rfl (.val rfl rfl (.val rfl rfl (.val rfl rfl (.ref rfl (v6v fun _ => rfl) .nil rfl rfl))))) rfl ?_)
  refine dv 2 ?_
  refine u1u rfl rfl rfl (dv 1 ?_)
  exact ⟨i + 1, ⟨by omega, by omega⟩, [0, 0, 0, 0, 0, 0, 0, 0, 0, 0, 0, 0, 0, 0, 0, _], (Cov.cons' (t := 4) rfl (by rw [x9x (by omega) (by omega)]; rfl) Cov.nil), x6x, (HE.kill rfl (HE.row rfl (by rw [b7j]; simp only [z8z hp, List.map_append, List.append_assoc]; rfl) HE.nil)), x4x, rfl⟩
 obtain rfl : i = n.lanes.length := by omega
 rw [List.take_length, List.drop_length, List.map_nil, List.map_nil, List.append_nil]
 refine dv 17 ?_
 refine y1y (id := 1) a9w rfl s5s rfl (dv 6 fun K K' => ?_)
 refine x5x (ι := Nat) (fun j γ2 => [(5, pI (j : Int))]) (fun j γ2 => [(1, ((γ2 1), .row 190 3 ((n.views.take j).map (a2l true)))), (7, ((0 + 1), .box 65 [pI n.id, .pv (.bool n.up), pI n.inc, pI n.g, .ref 0 (γ 0 + 1), .ref 3 (γ 3 + 1), .ref 4 (γ 4 + 1), pI n.led, pI n.version, .ref 1 (γ2 1), .ref 14 (0 + 1), pI n.round, pI n.low])), (8, ((γ2 8), .dead)), (9, ((γ2 9), .dead)), (10, ((γ2 10), .dead)), (11, ((γ2 11), .dead))]) (fun j => j ≤ n.views.length) (fun j => n.views.length - j) (q3q [1, 2, 3] rfl) (a0j [0, 2, 3, 4, 5, 6, 12, 13, 14, 15] rfl) 0 (by omega) [0, _, 0, 0, 0, 0, 0, 0, _, _, _, _] x6x (HE.row rfl (by rw [List.take_zero]; rfl) (HE.box rfl rfl (HE.kill rfl (HE.kill rfl (HE.kill rfl (HE.kill rfl HE.nil)))))) rfl fun j γ2 hi => ?_
 refine dc 7 (fun K K' => aS ?_ ?_)<;>intro o<;>try simp at o
 ·obtain rfl : j = n.views.length := by omega
  rw [List.take_length]
  refine dv 2 ?_
  refine y1y (id := 2) a0l rfl s4s rfl (dv 2 ?_)
  refine w2w (zs := n.known.map a3i) rfl rfl a0l rfl s4s rfl rfl rfl (z6z (fun _ => rfl) _) rfl (by (simp only [s3s, r0r, r5r, r8r, a0p, a2m, b3h, T3]; omega)) ?_
  refine dv 6 ?_
  exact ⟨[_, _, _, _, _], rfl, rfl, x4x⟩
 obtain ⟨v, hv⟩ := gE n.views j
 have hve := b6 v (List.mem_of_getElem? hv)
 refine dv 18 fun K K' => ?_
 refine y1y (id := 8) u4u rfl z2z rfl (dv 6 ?_)
 refine a1w p1p (zs := (v.events).map y8y) rfl rfl u4u rfl z2z rfl rfl rfl (z6z (fun _ => rfl) _) rfl (by (simp only [s3s, r0r, r5r, r8r, a0p, a2m, b3h, T56]; omega)) (Le.ow_map _ (fun _ => rfl) (fun _ => rfl)) ?_
 refine rlB s5s a6q ?_
 refine y2y (id := 10) a9w rfl s5s rfl rfl rfl rfl rfl rfl ?_
 refine y7y (zs := (n.views.take j ++ [v]).map (a2l true)) rfl rfl a9w rfl s5s rfl rfl rfl rfl (by rfl) (z7z _ _ _) (by (simp only [s3s, r0r, r5r, r8r, a0p, a2m, b3h, T190]; omega)) ?_
 refine dv 4 ?_
 refine u1u rfl rfl rfl (dv 1 ?_)
 exact ⟨j + 1, ⟨by omega, by omega⟩, [0, _, 0, 0, 0, 0, 0, 0, _, _, _, _], (Cov.cons' (t := 5) rfl (by rw [x9x (by omega) (by omega)]; rfl) Cov.nil), x6x, (HE.row rfl (by rw [z8z hv]) (HE.box rfl rfl (HE.kill rfl (HE.kill rfl (HE.kill rfl (HE.kill rfl HE.nil)))))), x4x, rfl⟩
end
section
theorem c5r (bs : List Nat) (hbs : ∀ b ∈ bs, b < 256) (w : Tw) (n : Nd) (hw : b9x w) (hv : viT n) (p0 : Nat) (hp : p0 + 200 ≤ 1000000) : MethE Tryz.prog 167 1 [.ptr 0 0 0, .agg (d4x true w), .agg (u2u true n)] [(0, (0, .box 243 [v4v true bs, .pv (.int .i64 ((p0 : Nat) : Int))]))] (ι := (Int × Int × Int × Int) × List Ev × Nat) (fun S' => S'.2.1.length ≤ 1010 ∧ S'.2.2 ≤ p0 + 200) (fun S' => [0]) (fun S' => .tup [.pv (.int .i64 S'.1.1), .pv (.int .i64 S'.1.2.1), .pv (.int .i64 S'.1.2.2.1), .pv (.int .i64 S'.1.2.2.2), s1s true S'.2.1]) (fun S' => [(0, (0, .box 243 [v4v true bs, .pv (.int .i64 ((S'.2.2 : Nat) : Int))]))]) := by
 refine mE (ι := (Int × Int × Int × Int) × List Ev × Nat) Tryz.f167 (fun S' => [.pv (.int .i64 S'.1.1), .pv (.int .i64 S'.1.2.1), .pv (.int .i64 S'.1.2.2.1), .pv (.int .i64 S'.1.2.2.2), s1s true S'.2.1]) 1 11 fun γ => ?_
 have hv3 := hv.1
 refine dv 1 ?_
 refine x8x (id := 1) rfl rfl rfl (x8x (id := 2) rfl rfl rfl (dv 7 ?_))
 refine rlM [0] [_] (x1x true bs (p0) (3) (by have := hp; omega) hbs) rfl rfl rfl ?_
 refine dv 1 ?_
 obtain ⟨N, eN, hN⟩ : ∃ N, pk bs p0 3 = N ∧ N < 3 := ⟨_, rfl, a3f _ _ _ (by omega)⟩
 rw [eN]
 refine w8w (ι := Nat × Nat) (fun s γ1 => [(11, pI (s.1 : Int))]) (fun s γ1 => [(0, ((γ 0), .box 243 [v4v true bs, pI ((s.2 : Nat) : Int)]))]) (fun s => s.1 < 3 ∧ s.2 ≤ p0 + 2) (q3q [0, 4, 5] rfl) (a0j [1, 2, 3, 4, 5, 6, 7, 8, 9, 10, 11] rfl) ?_ fun s γ1 hi => ?_
 ·refine dc 6 (aS ?_ ?_)<;>intro h<;>try simp at h
  ·refine dv 5 ?_
   exact ⟨(N, p0 + 1), (by exact ⟨hN, by show p0 + 1 ≤ p0 + 2; omega⟩), [], x6x, x6x, x4x, x4x, rfl⟩
  refine dv 1 ?_
  refine rlM [0] [_] (x1x true bs (p0 + 1) (6) (by have := hp; omega) hbs) rfl rfl rfl ?_
  refine dc 2 (aS ?_ ?_)<;>intro h<;>try simp at h
  ·refine dv 1 ?_
   exact ⟨(N, p0 + 1 + 1), (by exact ⟨hN, by show p0 + 1 + 1 ≤ p0 + 2; omega⟩), [], x6x, x6x, x4x, x4x, rfl⟩
  refine dv 2 ?_
  refine x7x (b := 1) rfl rfl (by omega) (r1r (.int .i64 (((N + 1) % 3 : Nat) : Int)) rfl rfl rfl rfl ?_)
  refine dv 1 ?_
  exact ⟨((N + 1) % 3, p0 + 1 + 1), (by exact ⟨by show (N + 1) % 3 < 3; omega, by show p0 + 1 + 1 ≤ p0 + 2; omega⟩), [], x6x, x6x, x4x, x4x, rfl⟩
 ·try dsimp only [a9u, a9v]
  clear eN hN
  obtain ⟨N, q0⟩ := s
  obtain ⟨hN, s2⟩ := hi
  dsimp only at hN s2 ⊢
  refine dv 1 ?_
  refine rlB s5s a6q ?_
  refine x2x (id := 3) s5s a6q rfl (dv 1 ?_)
  refine w8w (ι := Vi) (fun u γ2 => []) (fun u γ2 => [(3, ((0 + 1), .box 190 (a2l true u)))]) (fun u => u.events.length ≤ 1000) (q3q [0, 4, 5, 11, 12] rfl) (a0j [0, 1, 2, 4, 5, 6, 7, 8, 9, 10, 11] rfl) ?_ fun u γ2 hi => ?_
  ·refine d6l 3 rfl (.same (.same (.le (b := s1s true ([] : List Ev)) rfl .nil rfl (LeCs.refl _)))) ?_
   refine dv 5 ?_
   refine r1r (.int .i64 ((n.views.length : Int) - 1)) rfl rfl rfl (a6o rfl (by omega) (by omega) (by omega)) ?_
   refine x0x rfl rfl rfl (z3z (N : Int) 0 ((n.views.length : Int) - 1)) ?_
   refine dc 0 (aS ?_ ?_)<;>intro h<;>try simp at h
   ·refine dv 1 ?_
    exact ⟨vi0, (Nat.zero_le _), [], x6x, x6x, x4x, x4x, rfl⟩
   obtain ⟨vv, hvv⟩ := gE n.views N
   refine dv 7 ?_
   exact ⟨vv, (hv.2 vv (List.mem_of_getElem? hvv)), [], x6x, x6x, x4x, x4x, rfl⟩
  ·try dsimp only [a9u, a9v]
   refine dv 1 ?_
   refine y1y (id := 4) u4u rfl z2z rfl (dv 2 ?_)
   refine w2w (zs := (u.events).map y8y) rfl rfl u4u rfl z2z rfl rfl rfl (z6z (fun _ => rfl) _) rfl (by (simp only [s3s, r0r, r5r, r8r, a0p, a2m, T56]; omega)) ?_
   refine dv 1 ?_
   refine w8w (ι := List Ev × Nat) (fun s γ3 => [(13, .ref 4 (γ3 4))]) (fun s γ3 => [(4, ((γ3 4), .row 56 7 ((s.1).map y8y))), (0, ((γ 0), .box 243 [v4v true bs, pI ((s.2 : Nat) : Int)]))]) (fun s => s.1.length ≤ 1000 ∧ s.2 ≤ p0 + 3) (q3q [0, 5, 11, 12] rfl) (a0j [1, 2, 3, 5, 6, 7, 8, 9, 10, 11] rfl) ?_ fun s γ3 hi => ?_
   ·refine dv 4 ?_
    rw [hw.2.1]
    refine b4i rfl rfl rfl (q0q rfl (d3o rfl rfl (fun hg5 => ?_) (fun hg5 => ?_)))
    rotate_left
    ·simp at hg5
    try simp at hg5
    refine dv 1 ?_
    refine rlM [0] [_] (x1x true bs (q0) (3) (by have := s2; omega) hbs) rfl rfl rfl ?_
    refine dc 2 (aS ?_ ?_)<;>intro h<;>try simp at h
    ·refine dv 1 ?_
     exact ⟨(u.events, q0 + 1), (by exact ⟨hi, by show q0 + 1 ≤ p0 + 3; omega⟩), [0, 0, 0, 0, _], x6x, x6x, x4x, x4x, rfl⟩
    refine f3n 4 rfl (dv 4 ?_)
    obtain ⟨z, hz, hzI⟩ := b1a hw (i := N) (by omega)
    refine dv 4 ?_
    refine rlM [4] [_] (c1b true z hzI.1.1 n.id) rfl rfl rfl ?_
    refine dv 1 ?_
    exact ⟨(c8b z n.id, q0 + 1), (by exact ⟨e5t hzI.1.1 _, by show q0 + 1 ≤ p0 + 3; omega⟩), [0, 0, 0, 0, _], x6x, x6x, x4x, x4x, rfl⟩
   ·try dsimp only [a9u, a9v]
    obtain ⟨l0, q1⟩ := s
    obtain ⟨s3, s4⟩ := hi
    dsimp only at s3 s4 ⊢
    refine dv 3 fun K K' => ?_
    refine rlM [0] [_] (x1x true bs (q1) (3) (by have := s4; omega) hbs) rfl rfl rfl ?_
    refine dv 1 ?_
    obtain ⟨M, eM, hM⟩ : ∃ M, pk bs q1 3 = M ∧ M ≤ 3 := ⟨_, rfl, b2e _ _ _⟩
    rw [eM]
    refine dv 1 ?_
    refine x5x (ι := List Ev × Nat × Nat) (fun p γ4 => [(13, .ref 4 (γ4 4)), (14, pI (p.2.2 : Int))]) (fun p γ4 => [(4, ((γ4 4), .row 56 7 ((p.1).map y8y))), (0, ((γ 0), .box 243 [v4v true bs, pI ((p.2.1 : Nat) : Int)])), (6, ((γ4 6), .dead)), (7, ((γ4 7), .dead)), (8, ((γ4 8), .dead))]) (fun p => p.1.length + p.2.2 ≤ 1010 ∧ p.2.1 + 11 * p.2.2 ≤ p0 + 60) (fun p => p.2.2) (q3q [0, 5, 11, 12] rfl) (a0j [1, 2, 3, 5, 9, 10, 11] rfl) (l0, q1 + 1, M) ⟨by show l0.length + M ≤ 1010; omega, by show q1 + 1 + 11 * M ≤ p0 + 60; omega⟩ [0, 0, 0, 0, _, 0, _, _, _] x6x x4x rfl fun p γ4 hi => ?_
    obtain ⟨l, q, k⟩ := p
    obtain ⟨h1, h2⟩ := hi
    dsimp only at h1 h2 ⊢
    refine dc 4 (fun K K' => aI ?_ ?_)<;>intro h<;>try simp at h
    ·obtain ⟨k', rfl⟩ : ∃ k', k = k' + 1 := ⟨k - 1, by omega⟩
     refine dv 3 fun K K' => ?_
     refine a0d fun B X0 w0 => ?_
     refine txR 1 rfl rfl (dv 1 ?_)
     refine txM [0] [_] (a6k bs hbs q (by omega)) rfl rfl rfl rfl fun e he => ?_
     refine txR 2 rfl rfl (x2x (id := 6) z2z a6n rfl (dv 1 ?_))
     refine u0u rfl (dv 4 ?_)
     refine w8w (ι := Ev × Nat) (fun s γ5 => []) (fun s γ5 => [(0, ((γ 0), .box 243 [v4v true bs, pI ((s.2 : Nat) : Int)])), (6, ((γ4 6 + 1), .box 56 (y8y s.1)))]) (fun s => s.2 ≤ q + 11) (q3q [0, 5, 11, 12, 13, 14, 15] rfl) (a0j [1, 2, 3, 4, 5, 7, 8, 9, 10, 11] rfl) ?_ fun s γ5 hi => ?_
     ·refine dc 5 (aS ?_ ?_)<;>intro h<;>try simp at h
      ·refine dv 1 ?_
       exact ⟨({ e.1 with from' := (N : Int) }, e.2), (by show e.2 ≤ q + 11; omega), [], x6x, x6x, x4x, x4x, rfl⟩
      refine dv 7 ?_
      refine rlM [0] [_] (x1x true bs (e.2) (n.lanes.length) (by have := he; omega) hbs) rfl rfl rfl ?_
      obtain ⟨z, ez, hz⟩ : ∃ z, pk bs e.2 n.lanes.length = z ∧ z < n.lanes.length := ⟨_, rfl, a3f _ _ _ (by omega)⟩
      rw [ez]
      obtain ⟨la, hla⟩ : ∃ la, n.lanes[z]? = some la := ⟨_, List.getElem?_eq_getElem hz⟩
      refine dv 5 ?_
      exact ⟨({ e.1 with from' := (N : Int), to := la.proc }, e.2 + 1), (by show e.2 + 1 ≤ q + 11; omega), [], x6x, x6x, x4x, x4x, rfl⟩
     ·try dsimp only [a9u, a9v]
      refine dv 3 ?_
      refine y2y (id := 7) u4u rfl z2z rfl rfl rfl rfl rfl rfl ?_
      refine e8q p1p (zs := (l ++ [s.1]).map y8y) (zs' := (l ++ [s.1]).map y8y) rfl rfl u4u rfl z2z rfl rfl rfl rfl (by rfl) (z7z y8y l s.1) (by (simp only [s3s, r0r, r5r, r8r, a0p, a2m, T56]; omega)) (Le.ow_map _ (fun _ => rfl) (fun _ => rfl)) ?_
      refine rlM [4] [_] (a6f true (l ++ [s.1]) (by rw [List.length_append, List.length_cons, List.length_nil]; omega)) rfl rfl rfl ?_
      refine dv 3 ?_
      refine w6w (b := 1) rfl rfl (by omega) (by omega) (dv 1 ?_)
      exact ⟨(z5z (l ++ [s.1]), s.2, k'), ⟨⟨by show (z5z (l ++ [s.1])).length + k' ≤ 1010; have := c7t (l ++ [s.1]); rw [List.length_append, List.length_cons, List.length_nil] at this; omega, by show s.2 + 11 * k' ≤ p0 + 60; omega⟩, (by show k' < k' + 1; omega)⟩, [0, 0, 0, 0, _, 0, _, _, _], x6x, x6x, x4x, x4x, rfl⟩
    refine dv 1 ?_
    refine w8w (ι := List Ev × Nat) (fun s γ6 => [(13, s1s true s.1)]) (fun s γ6 => [(4, ((γ6 4), .dead)), (0, ((γ 0), .box 243 [v4v true bs, pI ((s.2 : Nat) : Int)])), (9, ((γ6 9), .dead)), (10, ((γ6 10), .dead)), (11, ((γ6 11), .dead))]) (fun s => s.1.length ≤ 1010 ∧ s.2 ≤ p0 + 70) (q3q [0, 11, 12] rfl) (a0j [1, 2, 3, 5, 6, 7, 8] rfl) ?_ fun s γ6 hi => ?_
    ·refine dv 2 ?_
     refine a3y (n := l.length) rfl u4u rfl rfl (List.length_map _) ?_
     refine dc 2 (aS ?_ ?_)<;>intro h<;>try simp at h
     ·refine dv 4 ?_
      refine w5w (f := y8y) 13 rfl rfl (fun _ => rfl) ?_
      refine dv 1 ?_
      exact ⟨(l, q), (by exact ⟨by show l.length ≤ 1010; omega, by show q ≤ p0 + 70; omega⟩), [0, 0, 0, 0, _, 0, 0, 0, 0, _, _, _], x6x, x6x, x4x, x4x, rfl⟩
     refine dv 1 ?_
     refine rlM [0] [_] (x1x true bs (q) (3) (by have := h2; omega) hbs) rfl rfl rfl ?_
     refine dc 2 (aS ?_ ?_)<;>intro h<;>try simp at h
     ·refine w5w (f := y8y) 13 rfl rfl (fun _ => rfl) ?_
      refine dv 1 ?_
      exact ⟨(l, q + 1), (by exact ⟨by show l.length ≤ 1010; omega, by show q + 1 ≤ p0 + 70; omega⟩), [0, 0, 0, 0, _, 0, 0, 0, 0, _, _, _], x6x, x6x, x4x, x4x, rfl⟩
     refine dv 3 ?_
     refine a3y (n := l.length) rfl u4u rfl rfl (List.length_map _) ?_
     refine rlM [0] [_] (x1x true bs (q + 1) (l.length) (by have := h2; omega) hbs) rfl rfl rfl ?_
     refine dv 1 ?_
     obtain ⟨j, ej, hj⟩ : ∃ j, pk bs (q + 1) l.length = j ∧ j < l.length := ⟨_, rfl, a3f _ _ _ (by omega)⟩
     rw [ej]
     refine dv 1 ?_
     refine y1y (id := 9) u4u rfl z2z rfl (dv 2 ?_)
     refine c7n p1p rfl u4u rfl z2z rfl rfl rfl rfl (by omega) (by omega) (by (simp only [s3s]; omega)) ?_
     refine b1y (f := y8y) (l := []) (l2 := l) (l' := l.take j) rfl rfl u4u rfl z2z rfl rfl rfl rfl (z6z (fun _ => rfl) _) (by (simp; done)) (by simp only [a0p, b3h, r0r, r5r, r8r, T56]; omega) ?_
     refine dv 2 ?_
     refine r1r (.int .i64 ((j + 1 : Nat) : Int)) rfl rfl rfl (a6o rfl (by omega) (by omega) (by omega)) ?_
     refine c7n p1p rfl u4u rfl z2z rfl rfl rfl rfl (by omega) (by (simp only [s3s]; omega)) (by omega) ?_
     refine e8r p1p (f := y8y) (l := l.take j) (l2 := l) (l' := (l.take j ++ l.drop (j + 1))) rfl rfl u4u rfl z2z rfl rfl rfl rfl (fun _ => rfl) (z6z (fun _ => rfl) _) (by (simp; done)) (by simp only [a0p, b3h, r0r, r5r, r8r, T56]; omega) ?_
     refine dv 1 ?_
     exact ⟨((l.take j ++ l.drop (j + 1)), q + 1 + 1), (by exact ⟨by show ((l.take j ++ l.drop (j + 1))).length ≤ 1010; rw [List.length_append, List.length_take, List.length_drop]; omega, by show q + 1 + 1 ≤ p0 + 70; omega⟩), [0, 0, 0, 0, _, 0, 0, 0, 0, _, _, _], x6x, x6x, x4x, x4x, rfl⟩
    ·try dsimp only [a9u, a9v]
     obtain ⟨l2, q2⟩ := s
     obtain ⟨s5, s6⟩ := hi
     dsimp only at s5 s6 ⊢
     refine dv 3 fun K K' => ?_
     refine rlM [0] [_] (x1x true bs (q2) (6) (by have := s6; omega) hbs) rfl rfl rfl ?_
     refine dc 1 (aI ?_ ?_)<;>intro h<;>try simp at h
     ·refine dv 4 ?_
      refine u1u rfl rfl rfl (dv 2 ?_)
      refine u1u rfl rfl rfl (dv 1 ?_)
      refine rlM [0] [_] (x1x true bs (q2 + 1) (6) (by have := s6; omega) hbs) rfl rfl rfl ?_
      refine u1u rfl rfl rfl (dv 7 ?_)
      exact ⟨(((N : Int), _, _, _), l2, q2 + 1 + 1), ⟨s5, by show q2 + 1 + 1 ≤ p0 + 200; omega⟩, [γ 0], rfl, rfl, x4x⟩
     refine dv 6 ?_
     refine rlM [0] [_] (x1x true bs (q2 + 1) (4) (by have := s6; omega) hbs) rfl rfl rfl ?_
     refine u1u rfl rfl rfl (u1u rfl rfl rfl (dv 1 ?_))
     refine y9y (out := pI u.version) rfl s4s rfl rfl ?_
     refine dv 1 ?_
     refine rlM [0] [_] (x1x true bs (q2 + 1 + 1) (3) (by have := s6; omega) hbs) rfl rfl rfl ?_
     refine u1u rfl rfl rfl (dv 1 ?_)
     refine rlM [0] [_] (x1x true bs (q2 + 1 + 1 + 1) (6) (by have := s6; omega) hbs) rfl rfl rfl ?_
     refine u1u rfl rfl rfl (dv 7 ?_)
     exact ⟨(((N : Int), _, _, _), l2, q2 + 1 + 1 + 1 + 1), ⟨s5, by show q2 + 1 + 1 + 1 + 1 ≤ p0 + 200; omega⟩, [γ 0], rfl, rfl, x4x⟩
end
section
theorem c6y (bs : List Nat) (hbs : ∀ b ∈ bs, b < 256) (p0 : Nat) (hp : p0 + 20000 ≤ 1000000) : MethE Tryz.prog 164 1 [.ptr 0 0 0] [(0, (0, .box 243 [v4v true bs, .pv (.int .i64 ((p0 : Nat) : Int))]))] (ι := Nd × Int × Int × Nat) (fun S' => ndI S'.1 ∧ S'.2.2.2 ≤ p0 + 12000) (fun S' => [0]) (fun S' => .tup [.agg (u2u true S'.1), .pv (.int .i64 S'.2.1), .pv (.int .i64 S'.2.2.1)]) (fun S' => [(0, (0, .box 243 [v4v true bs, .pv (.int .i64 ((S'.2.2.2 : Nat) : Int))]))]) := by
 refine mE (ι := Nd × Int × Int × Nat) Tryz.f164 (fun S' => [.agg (u2u true S'.1), .pv (.int .i64 S'.2.1), .pv (.int .i64 S'.2.2.1)]) 1 8 fun γ => ?_
 refine dv 1 ?_
 refine x2x (id := 1) u6u p9p rfl (dv 2 ?_)
 refine a0d fun B X0 w0 => ?_
 refine txR 1 rfl rfl (dv 1 ?_)
 refine txM [5, 6, 7, 8, 0] [_, _, _, _, _] (b6m bs hbs p0 8 (by omega)) rfl rfl rfl rfl fun S hS => ?_
 have hSp := hS.2.2
 refine txR 1 rfl rfl (dv 1 ?_)
 refine u0u rfl (a0d fun B X0 w0 => ?_)
 refine txR 1 rfl rfl (dv 1 ?_)
 refine txM [5, 6, 7, 8, 0] [_, _, _, _, _] (a5f bs hbs S (p0 + 502 + 1040 * 8) hS 0 (by omega)) rfl rfl rfl rfl fun S1 hS1 => ?_
 have hS12 := hS1.2.2
 have hM := a3f bs S1.p 3 (by omega)
 refine u0u rfl (a0d fun B X0 w0 => ?_)
 refine txR 3 rfl rfl (dv 2 ?_)
 refine rlM [0] [_] (x1x true bs (S1.p) (3) (by have := hS12; omega) hbs) rfl rfl rfl ?_
 refine txM [5, 6, 7, 8, 0] [_, _, _, _, _] (a1j bs hbs (pSm S1 (S1.p + 1)) (p0 + 502 + 1040 * 8 + 281 + 1) (a3j hS1 (by omega) (by omega)) (pk bs S1.p 3) 0 (by omega)) rfl rfl rfl rfl fun S2 hS2 => ?_
 have hw2 := hS2.1
 have hq2 : S2.p ≤ p0 + 10000 := by have := hS2.2.2; omega
 refine u0u rfl (dv 7 ?_)
 refine rlM [0] [_] (x1x true bs (S2.p) (3) (by have := hq2; omega) hbs) rfl rfl rfl ?_
 obtain ⟨a, ea, ha⟩ : ∃ a, pk bs S2.p 3 = a ∧ a < 3 := ⟨_, rfl, a3f _ _ _ (by omega)⟩
 rw [ea]
 obtain ⟨n, hnd, hnI⟩ := b1a hw2 (i := a) (by omega)
 refine y3y (j := a) rfl rfl a7p rfl u6u rfl rfl (z0z hnd) ?_
 refine s7s rfl u6u rfl (by assumption) rfl rfl ?_
 refine x2x (id := 2) u6u p9p rfl (dv 5 ?_)
 refine r1r (.int .i64 (n.round + 1)) rfl rfl rfl (a6o rfl (by omega) (by have := hnI.1.1.1.2.2.2.2.2.1; omega) (by have := hnI.1.1.1.2.2.2.2.2.1; omega)) ?_
 refine x0x rfl rfl rfl (a6x true n (n.round + 1)) ?_
 refine dv 4 ?_
 refine x2x (id := 3) u6u p9p rfl (x2x (id := 4) p0p b0r rfl (dv 3 ?_))
 refine w8w (ι := Nd) (fun m γ1 => []) (fun m γ1 => [(2, ((0 + 1), .box 65 (u2u true m)))]) (fun m => ndI m) (q3q [0, 2, 5, 6] rfl) (a0j [0, 1, 3, 4, 5, 6, 7, 8] rfl) ?_ fun m γ1 hi => ?_
 ·refine dc 2 (aS ?_ ?_)<;>intro h<;>try simp at h
  ·refine dv 1 ?_
   exact ⟨n, hnI, [], x6x, x6x, x4x, x4x, rfl⟩
  refine dv 3 ?_
  exact ⟨(v0v n (n.round + 1)).1, (e8l hnI _), [], x6x, x6x, x4x, x4x, rfl⟩
 ·try dsimp only [a9u, a9v]
  have hm := hi
  refine v5v (b := f2r true S2.w.nodes) 5 3 rfl rfl rfl (.ref rfl (Le.ow_map _ (fun _ => rfl) (fun _ => rfl)) .nil) rfl rfl rfl rfl ?_
  refine v5v (b := w7w true S2.w.radio) 5 4 rfl rfl rfl (.ref rfl (Le.ow_map _ (fun _ => rfl) (fun _ => rfl)) .nil) rfl rfl rfl rfl ?_
  refine w8w (ι := Nd × Nat) (fun s γ2 => []) (fun s γ2 => [(2, ((0 + 1), .box 65 (u2u true s.1))), (0, ((γ 0), .box 243 [v4v true bs, pI ((s.2 : Nat) : Int)]))]) (fun s => ndI s.1 ∧ s.2 ≤ p0 + 11000) (q3q [0, 2, 6] rfl) (a0j [1, 3, 4, 5, 6, 7, 8] rfl) ?_ fun s γ2 hi => ?_
  ·refine dv 2 ?_
   refine rlM [0] [_] (x1x true bs (S2.p + 1) (4) (by have := hq2; omega) hbs) rfl rfl rfl ?_
   refine dc 1 (aS ?_ ?_)<;>intro h<;>try simp at h
   ·refine dv 1 ?_
    exact ⟨(m, S2.p + 1 + 1), (by exact ⟨hm, by show S2.p + 1 + 1 ≤ _; omega⟩), [], x6x, x6x, x4x, x4x, rfl⟩
   refine c9z 6 (b4t p1p 0 6 rfl rfl ?_)
   refine dv 6 ?_
   refine b4v c3d (by rfl) [0] [_] (c5r bs hbs S2.w m hw2 (f6i hm.1.1) (S2.p + 1 + 1) (by omega)) rfl rfl rfl rfl (by decide) rfl rfl f0h (fun _ => (by (simp only [pI, a1z, a2b, b9v, gl, nx, a7c, Nat.beq]; rfl))) (fun _ => (by (simp only [pI, a1z, a2b, b9v, gl, nx, a7c, Nat.beq]; rfl))) ((0, 0, 0, 0), [], S2.p + 1 + 1) ⟨Nat.zero_le _, by show S2.p + 1 + 1 ≤ _; omega⟩ fun u hu => ?_
   refine b4u p1p 7 11 rfl rfl ?_
   refine dv 11 ?_
   refine c1t (by kernel_rfl) ?_
   refine dv 4 ?_
   refine r1r (.int .i64 (IntKind.i64.wrap (u.1.2.1 + 1))) rfl rfl rfl rfl ?_
   refine dv 3 ?_
   refine x0x rfl rfl rfl (b5i true m u.1.1 (IntKind.i64.wrap (u.1.2.1 + 1)) u.1.2.2.1 u.1.2.2.2 u.2.1) ?_
   refine dv 1 ?_
   exact ⟨(a3b m u.1.1 (IntKind.i64.wrap (u.1.2.1 + 1)) u.1.2.2.1 u.1.2.2.2 u.2.1, u.2.2), (by exact ⟨f6a hm _ _ _ _ _, by show u.2.2 ≤ _; have := hu.2; omega⟩), [], x6x, x6x, x4x, x4x, rfl⟩
  ·try dsimp only [a9u, a9v]
   obtain ⟨m2, q3⟩ := s
   obtain ⟨hm2, hq3⟩ := hi
   dsimp only at hm2 hq3 ⊢
   refine dv 2 ?_
   refine x0x rfl rfl rfl (a7m true m2) (dv 1 ?_)
   refine w8w (ι := Int × Nat) (fun s γ3 => [(15, pI (s.1))]) (fun s γ3 => [(0, ((γ 0), .box 243 [v4v true bs, pI ((s.2 : Nat) : Int)]))]) (fun s => s.2 ≤ p0 + 11002) (q3q [0, 2, 6] rfl) (a0j [1, 2, 3, 4, 5, 6, 7, 8] rfl) ?_ fun s γ3 hi => ?_
   ·refine dv 2 ?_
    refine rlM [0] [_] (x1x true bs (q3) (3) (by have := hq3; omega) hbs) rfl rfl rfl ?_
    refine dc 1 (aS ?_ ?_)<;>intro h<;>try simp at h
    ·refine dv 1 ?_
     exact ⟨(b4p m2, q3 + 1), (by show q3 + 1 ≤ _; omega), [], x6x, x6x, x4x, x4x, rfl⟩
    refine dv 2 ?_
    refine rlM [0] [_] (x1x true bs (q3 + 1) (43) (by have := hq3; omega) hbs) rfl rfl rfl ?_
    refine dv 1 ?_
    exact ⟨((pk bs (q3 + 1) 43 : Int), q3 + 1 + 1), (by show q3 + 1 + 1 ≤ _; omega), [], x6x, x6x, x4x, x4x, rfl⟩
   ·try dsimp only [a9u, a9v]
    obtain ⟨g3, q4⟩ := s
    have hq4 := hi
    dsimp only at hq4 ⊢
    refine dv 4 ?_
    refine w8w (ι := Int) (fun s γ4 => [(16, pI s)]) (fun s γ4 => [(0, ((γ 0), .box 243 [v4v true bs, pI ((q4 + 1 : Nat) : Int)]))]) (fun s => True) (q3q [2, 6, 15] rfl) (a0j [1, 2, 3, 4, 5, 6, 7, 8] rfl) ?_ fun s γ4 hi => ?_
    ·refine dv 2 ?_
     refine rlM [0] [_] (x1x true bs (q4) (8) (by have := hq4; omega) hbs) rfl rfl rfl ?_
     refine dc 1 (aS ?_ ?_)<;>intro h<;>try simp at h
     ·refine dv 1 ?_
      exact ⟨_, trivial, [], x6x, x6x, x4x, x4x, rfl⟩
     refine dv 2 ?_
     refine u1u rfl rfl rfl (dv 1 ?_)
     exact ⟨_, trivial, [], x6x, x6x, x4x, x4x, rfl⟩
    ·try dsimp only [a9u, a9v]
     refine dv 8 ?_
     exact ⟨(m2, s, g3, q4 + 1), ⟨hm2, by show q4 + 1 ≤ _; omega⟩, [γ 0], rfl, rfl, x4x⟩
end
section
theorem c1g (bs : List Nat) (hbs : ∀ b ∈ bs, b < 256) (p0 : Nat) (hp : p0 + 502 + 1040 * 14 ≤ 1000000) : MethE Tryz.prog 122 1 [.ptr 0 0 0] [(0, (0, .box 243 [v4v true bs, .pv (.int .i64 ((p0 : Nat) : Int))]))] (ι := Tw × Nd × Nat) (fun S' => b9x S'.1 ∧ c2n S'.2.1 ∧ S'.2.2 ≤ p0 + 15200) (fun S' => [0]) (fun S' => .tup [.agg (d4x true S'.1), .agg (u2u true S'.2.1)]) (fun S' => [(0, (0, .box 243 [v4v true bs, .pv (.int .i64 ((S'.2.2 : Nat) : Int))]))]) := by
 refine mE (ι := Tw × Nd × Nat) Tryz.f122 (fun S' => [.agg (d4x true S'.1), .agg (u2u true S'.2.1)]) 1 20 fun γ => ?_
 refine dv 1 ?_
 refine x2x (id := 1) b6x c0f rfl (x2x (id := 2) u6u p9p rfl (a0d fun B X0 w0 => ?_))
 refine txR 1 rfl rfl (dv 1 ?_)
 refine txM [0] [_] (c6x bs hbs p0 hp) rfl rfl rfl rfl fun j hj => ?_
 obtain ⟨hj1, hj2⟩ := hj
 have hq : j.1.p ≤ p0 + 503 + 1040 * 14 := hj1.2.2
 have hI := hj1.1.2.2.1 j.2 hj2
 have fS := hI.1.1
 have fb := c0q fS
 have fB := v9v fS
 obtain ⟨g1, g2, g3, g4, g5, g6⟩ := fB
 refine txR 7 rfl rfl (dv 3 ?_)
 refine x2x (id := 3) b6x c0f rfl (x2x (id := 4) u6u p9p rfl (dv 2 ?_))
 refine u0u rfl (dv 2 ?_)
 refine rlM [15, 16, 17, 18, 19] [_, _, _, _, _] (c2d true j.2 fb) rfl rfl rfl ?_
 refine dv 1 ?_
 refine w8w (ι := Nd × Nat × List (List AV)) (fun s γ1 => []) (fun s γ1 => [(15, ((γ1 15), .row 44 5 (s.2.2))), (16, ((γ1 16), .row 190 3 ((s.1.views).map (a2l true)))), (17, ((γ1 17), .row 3 1 ((s.1.known).map a3i))), (18, ((γ1 18), .row 56 7 ((s.1.kept).map y8y))), (19, ((γ1 19), .row 141 5 ((s.1.outs).map w3w))), (20, ((γ1 20), .dead)), (0, ((γ 0), .box 243 [v4v true bs, pI ((s.2.1 : Nat) : Int)])), (4, ((0 + 1), .box 65 [pI s.1.id, .pv (.bool s.1.up), pI s.1.inc, pI s.1.g, .ref 15 (γ1 15), .ref 18 (γ1 18), .ref 19 (γ1 19), pI s.1.led, pI s.1.version, .ref 16 (γ1 16), .ref 17 (γ1 17), pI s.1.round, pI s.1.low])), (5, ((γ1 5), .dead)), (6, ((γ1 6), .dead)), (7, ((γ1 7), .dead)), (8, ((γ1 8), .dead)), (9, ((γ1 9), .dead)), (10, ((γ1 10), .dead)), (11, ((γ1 11), .dead)), (12, ((γ1 12), .dead)), (13, ((γ1 13), .dead)), (14, ((γ1 14), .dead))]) (fun s => c2n s.1 ∧ s.2.1 ≤ p0 + 15200 ∧ Le true (.row .ow 44 5 s.2.2) (b9w true s.1.lanes)) (q3q [2, 3, 4, 5] rfl) (a0j [1, 2, 3] rfl) ?_ fun s γ1 hi => ?_
 ·refine dv 2 ?_
  refine rlM [0] [_] (x1x true bs (j.1.p) (24) (by have := hq; omega) hbs) rfl rfl rfl ?_
  refine dc 4 (aI ?_ ?_)<;>intro u<;>try simp at u
  ·refine dv 2 ?_
   refine rlM [0] [_] (x1x true bs (j.1.p + 1) (5) (by have := hq; omega) hbs) rfl rfl rfl ?_
   have h5 := a3f bs (j.1.p + 1) 5 (by omega)
   refine r1r (.int .i64 ((pk bs (j.1.p + 1) 5 : Int) - 1)) rfl rfl rfl (a6o rfl (by omega) (by omega) (by omega)) ?_
   refine dv 2 ?_
   exact ⟨({ j.2 with id := (pk bs (j.1.p + 1) 5 : Int) - 1 }, j.1.p + 1 + 1, j.2.lanes.map a5j), (by exact ⟨hI.2, by show j.1.p + 1 + 1 ≤ p0 + 15200; omega, (a7h _)⟩), [0, 0, 0, 0, 0, _, _, _, _, _, _, _, _, _, _, _, _, _, _, _, _], x6x, x6x, x4x, x4x, rfl⟩
  refine dc 3 (aI ?_ ?_)<;>intro u<;>try simp at u
  ·refine dv 1 ?_
   refine x0x rfl rfl rfl (u7u ..) (x0x rfl rfl rfl (u7u ..) (r1r (.int .i64 10000) rfl rfl rfl rfl ?_))
   refine a0b (id := 5) a0l rfl s4s rfl rfl rfl rfl (.val rfl rfl (.val rfl rfl (.val rfl rfl .nil))) rfl (a0g rfl) (a0g rfl) (a0g rfl) rfl rfl ?_
   refine dv 1 ?_
   refine rlM [0] [_] (x1x true bs (j.1.p + 1) (3) (by have := hq; omega) hbs) rfl rfl rfl ?_
   obtain ⟨z, ez, hz⟩ : ∃ z, pk bs (j.1.p + 1) 3 = z ∧ z < 3 := ⟨_, rfl, a3f _ _ _ (by omega)⟩
   rw [ez]
   obtain ⟨v, hv⟩ : ∃ x, ([0, 9999, 10000] : List Int)[z]? = some x := ⟨_, List.getElem?_eq_getElem hz⟩
   refine y3y (f := fun x : Int => [pI x]) (l := [0, 9999, 10000]) (j := z) rfl rfl a0l rfl s4s rfl rfl hz ?_
   refine a5x (f := fun x : Int => [pI x]) (l := [0, 9999, 10000]) rfl s4s rfl hv rfl ?_
   refine dv 2 ?_
   exact ⟨({ j.2 with inc := v }, j.1.p + 1 + 1, j.2.lanes.map a5j), (by exact ⟨hI.2, by show j.1.p + 1 + 1 ≤ p0 + 15200; omega, (a7h _)⟩), [0, 0, 0, 0, 0, _, _, _, _, _, _, _, _, _, _, _, _, _, _, _, _], x6x, x6x, x4x, x4x, rfl⟩
  refine dc 3 (aI ?_ ?_)<;>intro u<;>try simp at u
  ·refine dv 1 ?_
   refine a0b (id := 6) a0l rfl s4s rfl rfl rfl rfl (.val rfl rfl (.val rfl rfl (.val rfl rfl (.val rfl rfl .nil)))) rfl (a0g rfl) (a0g rfl) (a0g rfl) rfl rfl ?_
   refine dv 1 ?_
   refine rlM [0] [_] (x1x true bs (j.1.p + 1) (4) (by have := hq; omega) hbs) rfl rfl rfl ?_
   obtain ⟨z, ez, hz⟩ : ∃ z, pk bs (j.1.p + 1) 4 = z ∧ z < 4 := ⟨_, rfl, a3f _ _ _ (by omega)⟩
   rw [ez]
   obtain ⟨v, hv⟩ : ∃ x, ([-1, 41, 42, 3] : List Int)[z]? = some x := ⟨_, List.getElem?_eq_getElem hz⟩
   refine y3y (f := fun x : Int => [pI x]) (l := [-1, 41, 42, 3]) (j := z) rfl rfl a0l rfl s4s rfl rfl hz ?_
   refine a5x (f := fun x : Int => [pI x]) (l := [-1, 41, 42, 3]) rfl s4s rfl hv rfl ?_
   refine dv 2 ?_
   exact ⟨({ j.2 with g := v }, j.1.p + 1 + 1, j.2.lanes.map a5j), (by exact ⟨hI.2, by show j.1.p + 1 + 1 ≤ p0 + 15200; omega, (a7h _)⟩), [0, 0, 0, 0, 0, _, _, _, _, _, _, _, _, _, _, _, _, _, _, _, _], x6x, x6x, x4x, x4x, rfl⟩
  refine dc 3 (aI ?_ ?_)<;>intro u<;>try simp at u
  ·refine d7i 3 (b4t p1p 0 3 rfl rfl ?_)
   refine dv 3 ?_
   refine b4v c3d (by rfl) [0] [_] (a6k bs hbs (j.1.p + 1) (by omega)) rfl rfl rfl rfl (by decide) rfl rfl f0h (fun _ => (by (simp only [pI, a1z, a2b, b9v, gl, nx, a7c, Nat.beq]; rfl))) (fun _ => (by (simp only [pI, a1z, a2b, b9v, gl, nx, a7c, Nat.beq]; rfl))) (⟨0, 0, 0, 0, 0, 0, 0⟩, j.1.p + 1) (by show j.1.p + 1 ≤ _; omega) fun e he => ?_
   refine b4u p1p 4 4 rfl rfl ?_
   refine y2y (id := 7) u4u rfl z2z rfl rfl rfl rfl rfl rfl ?_
   refine y7y (zs := (j.2.kept ++ [e.1]).map y8y) rfl rfl u4u rfl z2z rfl rfl rfl rfl (by rfl) (z7z y8y j.2.kept e.1) (by (simp only [s3s, r0r, r5r, r8r, a0p, a2m, T56]; omega)) ?_
   refine dv 2 ?_
   refine c1t (by kernel_rfl) ?_
   exact ⟨({ j.2 with kept := j.2.kept ++ [e.1] }, e.2, j.2.lanes.map a5j), (by exact ⟨hI.2, by show e.2 ≤ p0 + 15200; omega, (a7h _)⟩), [0, 0, 0, 0, 0, _, _, _, _, _, _, _, _, _, _, _, _, _, _, _, _], x6x, x6x, x4x, x4x, rfl⟩
  refine dc 3 (aI ?_ ?_)<;>intro u<;>try simp at u
  ·refine d7i 3 (b4t p1p 0 3 rfl rfl ?_)
   refine dv 3 ?_
   refine b4v c3d (by rfl) [0] [_] (d0s bs hbs (j.1.p + 1) (by omega)) rfl rfl rfl rfl (by decide) rfl rfl f0h (fun _ => (by (simp only [pI, a1z, a2b, b9v, gl, nx, a7c, Nat.beq]; rfl))) (fun _ => (by (simp only [pI, a1z, a2b, b9v, gl, nx, a7c, Nat.beq]; rfl))) (⟨0, 0, 0, 0, 0⟩, j.1.p + 1) (by show j.1.p + 1 ≤ _; omega) fun o ho => ?_
   refine b4u p1p 4 4 rfl rfl ?_
   refine y2y (id := 9) p5p rfl z9z rfl rfl rfl rfl rfl rfl ?_
   refine y7y (zs := (j.2.outs ++ [o.1]).map w3w) rfl rfl p5p rfl z9z rfl rfl rfl rfl (by rfl) (z7z w3w j.2.outs o.1) (by (simp only [s3s, r0r, r5r, r8r, a0p, a2m, T141]; omega)) ?_
   refine dv 2 ?_
   refine c1t (by kernel_rfl) ?_
   exact ⟨({ j.2 with outs := j.2.outs ++ [o.1] }, o.2, j.2.lanes.map a5j), (by exact ⟨hI.2, by show o.2 ≤ p0 + 15200; omega, (a7h _)⟩), [0, 0, 0, 0, 0, _, _, _, _, _, _, _, _, _, _, _, _, _, _, _, _], x6x, x6x, x4x, x4x, rfl⟩
  refine dc 3 (aI ?_ ?_)<;>intro u<;>try simp at u
  ·refine dv 1 ?_
   refine x0x rfl rfl rfl (u7u ..) (x0x rfl rfl rfl (u7u ..) (r1r (.int .i64 10000) rfl rfl rfl rfl ?_))
   refine a0b (id := 11) a0l rfl s4s rfl rfl rfl rfl (.val rfl rfl (.val rfl rfl (.val rfl rfl .nil))) rfl (a0g rfl) (a0g rfl) (a0g rfl) rfl rfl ?_
   refine dv 1 ?_
   refine rlM [0] [_] (x1x true bs (j.1.p + 1) (3) (by have := hq; omega) hbs) rfl rfl rfl ?_
   obtain ⟨z, ez, hz⟩ : ∃ z, pk bs (j.1.p + 1) 3 = z ∧ z < 3 := ⟨_, rfl, a3f _ _ _ (by omega)⟩
   rw [ez]
   obtain ⟨v, hv⟩ : ∃ x, ([-1, 9999, 10000] : List Int)[z]? = some x := ⟨_, List.getElem?_eq_getElem hz⟩
   refine y3y (f := fun x : Int => [pI x]) (l := [-1, 9999, 10000]) (j := z) rfl rfl a0l rfl s4s rfl rfl hz ?_
   refine a5x (f := fun x : Int => [pI x]) (l := [-1, 9999, 10000]) rfl s4s rfl hv rfl ?_
   refine dv 2 ?_
   exact ⟨({ j.2 with version := v }, j.1.p + 1 + 1, j.2.lanes.map a5j), (by exact ⟨hI.2, by show j.1.p + 1 + 1 ≤ p0 + 15200; omega, (a7h _)⟩), [0, 0, 0, 0, 0, _, _, _, _, _, _, _, _, _, _, _, _, _, _, _, _], x6x, x6x, x4x, x4x, rfl⟩
  refine dc 3 (aI ?_ ?_)<;>intro u<;>try simp at u
  ·refine d7i 5 (b4t p1p 0 5 rfl rfl ?_)
   refine dv 3 ?_
   refine rlM [0] [_] (x1x true bs (j.1.p + 1) (3) (by have := hq; omega) hbs) rfl rfl rfl ?_
   refine dv 1 ?_
   refine b4v c3d (by rfl) [0] [_] (c2b bs hbs (j.1.p + 1 + 1) 3 (by omega) (by omega)) rfl rfl rfl rfl (by decide) rfl rfl f0h (fun _ => (by (simp only [pI, a1z, a2b, b9v, gl, nx, a7c, Nat.beq]; rfl))) (fun _ => (by (simp only [pI, a1z, a2b, b9v, gl, nx, a7c, Nat.beq]; rfl))) ([], j.1.p + 1 + 1) ⟨Nat.zero_le _, by show j.1.p + 1 + 1 ≤ _; omega⟩ fun l hl => ?_
   refine b4u p1p 6 3 rfl rfl ?_
   have h3v : j.2.views.length = 3 := fS.2.2.2.2.2.1
   obtain ⟨z, ez, hz⟩ : ∃ z, pk bs (j.1.p + 1) 3 = z ∧ z < 3 := ⟨_, rfl, a3f _ _ _ (by omega)⟩
   rw [ez]
   obtain ⟨v, hv⟩ := gE j.2.views z
   refine y3y (j := z) rfl rfl a9w rfl s5s rfl rfl (z0z hv) ?_
   refine dv 1 ?_
   refine a8v { v with events := l.1 } rfl rfl u4u rfl rfl rfl hv rfl (by decide) (.val rfl rfl .nil) rfl rfl ?_
   refine c1t (by kernel_rfl) ?_
   exact ⟨({ j.2 with views := j.2.views.set z { v with events := l.1 } }, l.2, j.2.lanes.map a5j), (by exact ⟨hI.2, by show l.2 ≤ p0 + 15200; omega, (a7h _)⟩), [0, 0, 0, 0, 0, _, _, _, _, _, _, _, _, _, _, _, _, _, _, _, _], x6x, x6x, x4x, x4x, rfl⟩
  refine dc 3 (aI ?_ ?_)<;>intro u<;>try simp at u
  ·obtain ⟨l0, rest, hl⟩ : ∃ l0 rest, j.2.lanes = l0 :: rest := by have h := e5p fS; match hm : j.2.lanes with | [] => (rw [hm] at h; cases h) | a :: r => exact ⟨a, r, rfl⟩
   have hld := (fb.2.2.2.1 l0 (by rw [hl]; exact List.mem_cons_self ..)).1
   rw [hl]
   refine e1r (A := []) (B := rest.map a5j) (cs := a5j l0) (j := 0) 15 4 20 rfl rfl rfl rfl rfl rfl ?_
   refine d7i 8 (b4t p1p 0 8 rfl rfl ?_)
   refine dv 4 ?_
   refine b4h (A := []) (j := 0) rfl rfl a8c rfl a0k rfl rfl rfl ?_
   refine dv 1 ?_
   refine e6v (A := []) rfl rfl a6m rfl rfl ?_
   refine dv 1 ?_
   refine b4v c3d (by rfl) [0] [_] (a6k bs hbs (j.1.p + 1) (by omega)) rfl rfl rfl rfl (by decide) rfl rfl f0h (fun _ => (by (simp only [pI, a1z, a2b, b9v, gl, nx, a7c, Nat.beq]; rfl))) (fun _ => (by (simp only [pI, a1z, a2b, b9v, gl, nx, a7c, Nat.beq]; rfl))) (⟨0, 0, 0, 0, 0, 0, 0⟩, j.1.p + 1) (by show j.1.p + 1 ≤ _; omega) fun e he => ?_
   refine b4u p1p 9 6 rfl rfl ?_
   refine rlB a4k c0g ?_
   refine y2y (id := 12) a6m rfl a4k rfl rfl rfl rfl rfl rfl ?_
   refine y7y (zs := l0.done.map (a2r true) ++ [d9q e.1]) rfl rfl a6m rfl a4k rfl rfl rfl rfl rfl rfl (by (simp only [s3s, r0r, r5r, r8r, a0p, a2m, T58]; omega)) ?_
   refine b4h (A := []) (j := 0) rfl rfl a8c rfl a0k rfl rfl rfl ?_
   refine dv 1 ?_
   refine a7t rfl rfl a6m rfl rfl rfl (Nat.succ_pos _) (a0g rfl) (.ref rfl (e8p _ _) .nil rfl rfl) rfl ?_
   refine c1t (by kernel_rfl) ?_
   exact ⟨({ j.2 with lanes := ⟨l0.proc, l0.base, l0.done ++ [d9r e.1]⟩ :: rest }, e.2, e5o l0 e.1 :: rest.map a5j), (by exact ⟨e5q hI.2 hl e.1, by show e.2 ≤ p0 + 15200; omega, e8o _ _ _⟩), [0, 0, 0, 0, 0, _, _, _, _, _, _, _, _, _, _, _, _, _, _, _, _], x6x, x6x, x4x, x4x, rfl⟩
  refine dc 3 (aI ?_ ?_)<;>intro u<;>try simp at u
  ·refine dv 1 ?_
   refine x0x rfl rfl rfl (u7u ..) (x0x rfl rfl rfl (u7u ..) (r1r (.int .i64 10000) rfl rfl rfl rfl ?_))
   refine a0b (id := 14) a0l rfl s4s rfl rfl rfl rfl (.val rfl rfl (.val rfl rfl (.val rfl rfl .nil))) rfl (a0g rfl) (a0g rfl) (a0g rfl) rfl rfl ?_
   refine dv 1 ?_
   refine rlM [0] [_] (x1x true bs (j.1.p + 1) (3) (by have := hq; omega) hbs) rfl rfl rfl ?_
   obtain ⟨z, ez, hz⟩ : ∃ z, pk bs (j.1.p + 1) 3 = z ∧ z < 3 := ⟨_, rfl, a3f _ _ _ (by omega)⟩
   rw [ez]
   obtain ⟨v, hv⟩ : ∃ x, ([-1, 9999, 10000] : List Int)[z]? = some x := ⟨_, List.getElem?_eq_getElem hz⟩
   refine y3y (f := fun x : Int => [pI x]) (l := [-1, 9999, 10000]) (j := z) rfl rfl a0l rfl s4s rfl rfl hz ?_
   refine a5x (f := fun x : Int => [pI x]) (l := [-1, 9999, 10000]) rfl s4s rfl hv rfl ?_
   refine dv 2 ?_
   exact ⟨({ j.2 with round := v }, j.1.p + 1 + 1, j.2.lanes.map a5j), (by exact ⟨hI.2, by show j.1.p + 1 + 1 ≤ p0 + 15200; omega, (a7h _)⟩), [0, 0, 0, 0, 0, _, _, _, _, _, _, _, _, _, _, _, _, _, _, _, _], x6x, x6x, x4x, x4x, rfl⟩
  refine dc 3 (aS ?_ ?_)<;>intro u<;>try simp at u
  ·refine dv 1 ?_
   exact ⟨(j.2, j.1.p + 1, j.2.lanes.map a5j), (by exact ⟨hI.2, by show j.1.p + 1 ≤ p0 + 15200; omega, (a7h _)⟩), [0, 0, 0, 0, 0, _, _, _, _, _, _, _, _, _, _, _, _, _, _, _, _], x6x, x6x, x4x, x4x, rfl⟩
  refine dv 6 ?_
  exact ⟨({ j.2 with up := !j.2.up }, j.1.p + 1, j.2.lanes.map a5j), (by exact ⟨hI.2, by show j.1.p + 1 ≤ p0 + 15200; omega, (a7h _)⟩), [0, 0, 0, 0, 0, _, _, _, _, _, _, _, _, _, _, _, _, _, _, _, _], x6x, x6x, x4x, x4x, rfl⟩
 ·try dsimp only [a9u, a9v]
  refine v5v (b := b9w true s.1.lanes) 4 4 rfl rfl rfl (.ref rfl hi.2.2 .nil) rfl rfl rfl rfl ?_
  refine v5v (b := c1r true s.1.views) 4 9 rfl rfl rfl (.ref rfl (Le.ow_map _ (fun _ => rfl) (fun _ => rfl)) .nil) rfl rfl rfl rfl ?_
  refine v5v (b := a4n true s.1.known) 4 10 rfl rfl rfl (.ref rfl (Le.ow_map _ (fun _ => rfl) (fun _ => rfl)) .nil) rfl rfl rfl rfl ?_
  refine v5v (b := s1s true s.1.kept) 4 5 rfl rfl rfl (.ref rfl (Le.ow_map _ (fun _ => rfl) (fun _ => rfl)) .nil) rfl rfl rfl rfl ?_
  refine v5v (b := q7q true s.1.outs) 4 6 rfl rfl rfl (.ref rfl (Le.ow_map _ (fun _ => rfl) (fun _ => rfl)) .nil) rfl rfl rfl rfl ?_
  refine dv 6 ?_
  exact ⟨(j.1.w, s.1, s.2.1), ⟨hj1.1, hi.1, hi.2.1⟩, [γ 0], rfl, rfl, x4x⟩
end
section
theorem b5k (bs : List Nat) (hbs : ∀ b ∈ bs, b < 256)  : MethE Tryz.prog 66 0 [v4v true bs] [] (ι := Nd × Int × Int) (fun S' => c2n S'.1) (fun S' => []) (fun S' => .tup [.agg (u2u true S'.1), .pv (.int .i64 S'.2.1), .pv (.int .i64 S'.2.2)]) (fun S' => []) := by
 refine mE (ι := Nd × Int × Int) Tryz.f66 (fun S' => [.agg (u2u true S'.1), .pv (.int .i64 S'.2.1), .pv (.int .i64 S'.2.2)]) 0 4 fun γ => ?_
 refine dv 1 ?_
 refine x2x (id := 0) u6u p9p rfl (dv 4 ?_)
 refine rlM [3] [_] (d0n true bs) rfl rfl rfl ?_
 refine dv 4 fun K K' => ?_
 refine rlM [3] [_] (x1x true (bs.take 2000) (0) (4) (by omega) (fun b hb => hbs b (List.mem_of_mem_take hb))) rfl rfl rfl ?_
 refine dc 1 (aS ?_ ?_)<;>intro h<;>try simp at h
 ·refine dv 1 ?_
  refine a0d fun B X0 w0 => ?_
  refine txR 1 rfl rfl (dv 1 ?_)
  refine txM [3] [_] (c6y (bs.take 2000) (fun b hb => hbs b (List.mem_of_mem_take hb)) (0 + 1) (by omega)) rfl rfl rfl rfl fun u hu => ?_
  refine txR 6 rfl rfl (dv 6 ?_)
  refine u0u rfl (dv 1 ?_)
  exact ⟨(u.1, u.2.1, u.2.2.1), hu.1.2, [], rfl, rfl, x4x⟩
 refine a0d fun B X0 w0 => ?_
 refine txR 1 rfl rfl (dv 1 ?_)
 refine txM [3] [_] (c1g (bs.take 2000) (fun b hb => hbs b (List.mem_of_mem_take hb)) (0 + 1) (by omega)) rfl rfl rfl rfl fun j hj => ?_
 refine txR 7 rfl rfl (dv 3 ?_)
 refine x2x (id := 1) b6x c0f rfl (x2x (id := 2) u6u p9p rfl (dv 2 ?_))
 refine u0u rfl (dv 5 ?_)
 refine x0x rfl rfl rfl (a7m true j.2.1) (dv 4 ?_)
 exact ⟨(j.2.1, j.2.1.round, b4p j.2.1), hj.2.1, [], rfl, rfl, x4x⟩
end
section
theorem c6z (c : Bool) (l : La) (fL : a6c l = true) : a0t Tryz.prog 116 [.agg (q1q c l)] (.agg (q8q (d5e l))) := by
 refine pX Tryz.f116 [.agg (q8q (d5e l))] 2 ?_
 have hl1 := (a1i fL).1
 refine dv 1 ?_
 refine x8x (id := 0) rfl rfl rfl (x2x (id := 1) a2x c6f rfl (dc 6 (fun K K' => aI ?_ ?_)))<;>intro hc2<;>try simp at hc2
 ·have h0 : l.done.length = 0 := by (rw [hc2]; rfl)
  refine dv 2 ?_
  refine y9y (out := .agg (q8q l.base)) rfl a2x rfl rfl ?_
  refine dv 2 ?_
  (rw [f0d fL h0]; exact a6s rfl rfl rfl rfl)
 have h1 : 0 < l.done.length := List.length_pos_iff.2 hc2
 obtain ⟨p, hp⟩ := gE l.done (l.done.length - 1)
 refine dv 7 ?_
 refine w6w (b := 1) rfl rfl (by omega) (by omega) (dv 2 ?_)
 refine u8u (out := .agg (q8q p.after)) rfl a2x rfl ?_
 refine dv 2 ?_
 (rw [f0e fL hp]; exact a6s rfl rfl rfl rfl)
theorem b6n (c : Bool) (l : La) (fL : a6c l = true) : a0t Tryz.prog 30 [.agg (q1q c l)] (.agg (q8q (d5e l))) := by
 refine pX Tryz.f30 [.agg (q8q (d5e l))] 2 ?_
 refine dv 1 ?_
 refine x8x (id := 0) rfl rfl rfl (x2x (id := 1) a2x c6f rfl (dv 3 fun K K' => ?_))
 refine x0x rfl rfl rfl (b9l c l) (dv 1 ?_)
 refine a1e rfl (fun hc2 => ?_) (fun hc2 => ?_)
 ·(simp [fL] at hc2; done)
 try simp at hc2
 refine dv 3 ?_
 refine x0x rfl rfl rfl (c6z c l fL) (dv 2 ?_)
 exact a6s rfl rfl rfl rfl
end
section
def b1c (l : List Ev) : List (Value × AV) := (q4q l).map fun k => (c5y (evN k), pI (l.count k : Nat))
def a4o (l : List Ev) (e : Ev) : Nat := (a8d (q4q l) e).getD (q4q l).length
def b7u (l : List Ev) (e : Ev) : List (Value × AV) := if e ∈ l then b1c l else b1c l ++ [(c5y (evN e), pI (l.count e : Nat))]
theorem a2n (l : List Ev) : (b1c l).map (·.1) = (q4q l).map fun k => c5y (evN k) := by
 rw [b1c, List.map_map]; rfl
variable {l : List Ev} {e : Ev}
theorem d8a {j : Nat} (h : a8d (q4q l) e = some j) : (b1c l)[j]? = some (c5y (evN e), pI (l.count e : Nat)) := by
 rw [b1c, List.getElem?_map, b7d h]; rfl
theorem d0t (h : a8d (q4q l) e = none) : e ∉ l ∧ l.count e = 0 := by
 have := b4g.1 h
 rw [a2e] at this
 exact ⟨this, List.count_eq_zero.2 this⟩
variable {tt : TT} {et : TypeId} {S : TS}
theorem c1h (hs : tt et = some S) (hz : c0i S = pI 0) (l : List Ev) (e : Ev) : (∃ j kv, a8d (q4q l) e = some j ∧ (b1c l)[j]? = some (kv, pI (l.count e : Nat))) ∨ (a8d (q4q l) e = none ∧ ∃ S, tt et = some S ∧ pI (l.count e : Nat) = c0i S) := by
 cases h : a8d (q4q l) e with
 | some j => exact .inl ⟨j, _, rfl, d8a h⟩
 | none => exact .inr ⟨rfl, S, hs, by rw [hz, (d0t h).2]; rfl⟩
theorem a5g (hs : tt et = some S) (hz : c0i S = pI 0) (l : List Ev) (e : Ev) :
  (a8d (q4q l) e = some (a4o l e) ∧ (b1c l)[a4o l e]? = some (c5y (evN e), pI (l.count e : Nat)) ∧ b7u l e = b1c l) ∨
   (a8d (q4q l) e = none ∧ a4o l e = (b1c l).length ∧ b7u l e = b1c l ++ [(c5y (evN e), pI (l.count e : Nat))] ∧ ∃ S, tt et = some S ∧ pI (l.count e : Nat) = c0i S) := by
 cases h : a8d (q4q l) e with
 | some j =>
  have hm : e ∈ l := by
   rw [← a2e]; exact List.mem_of_getElem? (b7d h)
  have hp : a4o l e = j := by rw [a4o, h]; rfl
  exact .inl ⟨by rw [hp], by rw [hp]; exact d8a h, if_pos hm⟩
 | none =>
  have hn := d0t h
  exact .inr ⟨rfl, by rw [a4o, h, b1c, List.length_map]; rfl, if_neg hn.1, S, hs, by rw [hz, hn.2]; rfl⟩
theorem a2o (l : List Ev) (e : Ev) : (b7u l e)[a4o l e]? = some (c5y (evN e), pI (l.count e : Nat)) := by
 rcases a5g (tt := fun _ => some ⟨.oth, 1, 8, [.int .i64 0]⟩) (et := 0) rfl rfl l e with ⟨h1, h2, h3⟩ | ⟨h1, h2, h3, _⟩
 ·rw [h3]; exact h2
 ·rw [h3, h2, List.getElem?_append_right (Nat.le_refl _), Nat.sub_self]; rfl
def e8y (l : List Ev) (e : Ev) : List Ev := if e ∈ l then q4q l else q4q l ++ [e]
theorem b5u (l : List Ev) (e : Ev) : (b7u l e).map (·.1) = (e8y l e).map fun k => c5y (evN k) := by
 unfold b7u e8y
 split
 ·exact a2n l
 ·rw [List.map_append, List.map_append, a2n]; rfl
theorem d3m {κ : Type} [DecidableEq κ] {k : κ} : ∀ {ks : List κ}, a8d ks k = none → a8d (ks ++ [k]) k = some ks.length
 | [], _ => by simp [a8d]
 | a :: r, h => by
  simp only [a8d] at h
  split at h
  ·cases h
  ·rename_i hne
   simp only [List.cons_append, a8d, if_neg hne, List.length_cons]
   rw [d3m (by simpa using h)]; rfl
theorem b5v (l : List Ev) (e : Ev) : (∃ j kv, a8d (e8y l e) e = some j ∧ (b7u l e)[j]? = some (kv, pI (l.count e : Nat))) ∨ (a8d (e8y l e) e = none ∧ ∃ S, tt et = some S ∧ pI (l.count e : Nat) = c0i S) := by
 refine .inl ⟨a4o l e, _, ?_, a2o l e⟩
 unfold e8y
 cases h : a8d (q4q l) e with
 | some j =>
  have hm : e ∈ l := by rw [← a2e]; exact List.mem_of_getElem? (b7d h)
  rw [if_pos hm, a4o, h]; rfl
 | none => rw [if_neg (d0t h).1, d3m h, a4o, h]; rfl
theorem a3k (l : List Ev) (e : Ev) : (b7u l e).set (a4o l e) (c5y (evN e), pI ((l.count e + 1 : Nat) : Int)) = b1c (l ++ [e]) := by
 have hc : ∀ k, k ≠ e → (l ++ [e]).count k = l.count k := fun k hk => by
  rw [List.count_append, List.count_singleton]
  simp [Ne.symm hk]
 have hce : (l ++ [e]).count e = l.count e + 1 := by
  rw [List.count_append, List.count_singleton]; simp
 by_cases hm : e ∈ l
 ·have ho : q4q (l ++ [e]) = q4q l := by rw [b2s, if_pos ((a2e e l).2 hm)]
  obtain ⟨j, hj⟩ := d1o ((a2e e l).2 hm)
  have hp : a4o l e = j := by rw [a4o, hj]; rfl
  have hg := b7d hj
  rw [b7u, if_pos hm, hp, b1c, b1c, ho]
  apply List.ext_getElem?
  intro i
  rw [List.getElem?_set, List.getElem?_map, List.length_map]
  by_cases hi : j = i
  ·subst hi
   rw [if_pos rfl, if_pos (List.getElem?_eq_some_iff.1 hg).1, List.getElem?_map, hg]
   simp only [Option.map_some, hce]
  ·rw [if_neg hi, List.getElem?_map]
   cases hk : (q4q l)[i]? with
   | none => rfl
   | some k =>
    have hne : k ≠ e := fun h => by
     subst h
     exact hi ((List.getElem?_inj (List.getElem?_eq_some_iff.1 hg).1 (c1o l)).1 (hg.trans hk.symm))
    simp only [Option.map_some, hc k hne]
 ·have h0 : a8d (q4q l) e = none := b4g.2 (by rw [a2e]; exact hm)
  have ho : q4q (l ++ [e]) = q4q l ++ [e] := by rw [b2s, if_neg (by rw [a2e]; exact hm)]
  have hp : a4o l e = (b1c l).length := by rw [a4o, h0, b1c, List.length_map]; rfl
  rw [b7u, if_neg hm, hp, List.set_append_right _ _ (Nat.le_refl _), Nat.sub_self, List.set_cons_zero, b1c, b1c, ho, List.map_append]
  congr 1
  ·refine List.map_congr_left fun k hk => ?_
   rw [hc k (fun h => hm ((a2e e l).1 (h ▸ hk)))]
  ·simp only [List.map_cons, List.map_nil, hce]
theorem d5g : (l ++ [e]).count e = 1 → b2r a2q (q4q (l ++ [e])) = b8u a2q (b2r a2q (q4q l)) e := fun h => by
 have : e ∉ l := by
  rw [List.count_append, List.count_singleton] at h
  exact List.count_eq_zero.1 (by simpa using h)
 rw [b2s, if_neg (by rw [a2e]; exact this), c7q]
theorem d5h : ¬ (l ++ [e]).count e = 1 → q4q (l ++ [e]) = q4q l := fun h => by
 have : e ∈ l := by
  rw [List.count_append, List.count_singleton] at h
  refine Classical.byContradiction fun hn => h ?_
  rw [List.count_eq_zero.2 hn]; simp
 rw [b2s, if_pos (by rw [a2e]; exact this)]
end
section
theorem a7y (l : List Ev) (x : Ev) (hl : l.length ≤ 1000000000) : Meth Tryz.prog 275 2 [0] [.ptr 0 0 0, .agg (y8y x)] [(0, (0, .box 303 [.ref 1 0, .fn (.func 127) [] []])), (1, (0, .row 153 7 ((l).map y8y)))] (.tup []) [(0, (0, .box 303 [.ref 1 0, .fn (.func 127) [] []])), (1, (0, .row 153 7 ((b8u a2q l x).map y8y)))] := by
 refine mX Tryz.f275 [] 2 3 fun γ => ?_
 refine dv 1 ?_
 refine x8x (id := 2) rfl rfl rfl (dv 7 ?_)
 refine y2y (id := 3) a2u rfl r9r rfl rfl rfl rfl rfl rfl (y7y rfl rfl a2u rfl r9r rfl rfl rfl rfl (by rfl) (z7z _ _ _) (by (simp only [s3s, r0r, r5r, r8r, T153]; omega)) ?_)
 refine dv 9 ?_
 refine w6w (b := 1) rfl rfl (by (simp; done)) (by (simp; omega)) ?_
 refine dv 2 ?_
 refine x5x (ι := Nat × List Ev) (fun i γ1 => [(4, pI (i.1 : Int))]) (fun i γ1 => [(1, ((γ1 1), .row 153 7 ((i.2).map y8y))), (0, ((γ 0), .box 303 [.ref 1 (γ1 1), .fn (.func 127) [] []]))]) (fun i => a9e a2q i.2 i.1 = b8u a2q l x ∧ i.1 < i.2.length ∧ i.2.length = l.length + 1) (fun i => i.1) (y0y 0 rfl Cov.nil) (a0j [2, 3, 4] rfl) (l.length, l ++ [x]) ⟨rfl, by simp, by simp⟩ [0, _] (Cov.cons' (t := 4) rfl (by simp) Cov.nil) x4x rfl fun i γ1 hi => ?_
 obtain ⟨k, m⟩ := i
 obtain ⟨h1, h2, h3⟩ := hi
 dsimp only at h1 h2 h3 ⊢
 refine dc 4 (fun K K' => aS ?_ ?_)<;>intro h<;>try simp at h
 ·have hk : k = 0 := by omega
  subst hk
  have hfin := siftUp_zero.symm.trans h1
  refine dv 1 ?_
  exact ⟨[γ 0, _], rfl, rfl, HE.box rfl rfl (HE.row rfl (by rw [← hfin]) HE.nil)⟩
 obtain ⟨a, ha⟩ := gE m k
 obtain ⟨b, hb⟩ := gE m ((k - 1) / 2)
 have hp : (k - 1) / 2 < k := by omega
 refine dv 4 ?_
 refine w6w (b := 1) rfl rfl (by omega) (by omega) (c8q (b := 2) rfl rfl (by omega) (by omega) (dv 12 fun K K' => ?_))
 refine y3y (j := k) rfl rfl a2u rfl r9r rfl rfl (by omega) ?_
 refine dv 6 ?_
 refine y3y (j := (k - 1) / 2) rfl rfl a2u rfl r9r rfl rfl (by omega) ?_
 refine dv 1 ?_
 refine x0x rfl rfl rfl (a7j _ _) (dc 1 (aI ?_ ?_))<;>intro hc4<;>try simp at hc4
 ·have hfin := (b7i ha hb hc4).symm.trans h1
  refine dv 1 ?_
  exact ⟨[γ 0, _], rfl, rfl, HE.box rfl rfl (HE.row rfl (by rw [← hfin]) HE.nil)⟩
 have hg := hc4
 refine dv 17 ?_
 refine y3y (j := (k - 1) / 2) rfl rfl a2u rfl r9r rfl rfl (by omega) ?_
 refine dv 6 ?_
 refine y3y (j := k) rfl rfl a2u rfl r9r rfl rfl (by omega) ?_
 refine dv 1 ?_
 refine y3y (j := k) rfl rfl a2u rfl r9r rfl rfl (by omega) ?_
 refine u3u (el' := b) rfl rfl r9r rfl rfl rfl ha rfl (a0x _) rfl rfl ?_
 refine y3y (j := (k - 1) / 2) rfl rfl a2u rfl r9r rfl rfl (by rw [List.length_set]; omega) ?_
 refine u3u (el' := a) rfl rfl r9r rfl rfl rfl (by rw [List.getElem?_set_ne (by omega)]; exact hb) rfl (a0x _) rfl rfl ?_
 refine dv 3 ?_
 exact ⟨((k - 1) / 2, sw m k ((k - 1) / 2)), ⟨⟨by rw [← h1, b7h (by omega) ha hb hg], by rw [b0j]; dsimp only; omega, by rw [b0j]; exact h3⟩, (by dsimp only; omega)⟩, [0, _], x6x, x6x, (HE.row rfl (by rw [e2l ha hb]) (HE.box rfl rfl HE.nil)), x4x, rfl⟩
theorem a8h (m : Ev) (r : List Ev) (hl : r.length ≤ 1000000000) : Meth Tryz.prog 305 2 [0] [.ptr 0 0 0] [(0, (0, .box 303 [.ref 1 0, .fn (.func 127) [] []])), (1, (0, .row 153 7 ((m :: r).map y8y)))] (.agg (y8y m)) [(0, (0, .box 303 [.ref 1 0, .fn (.func 127) [] []])), (1, (0, .row 153 7 ((b2q a2q (m :: r)).map y8y)))] := by
 refine s2s p1p (fn := Tryz.f305) (by kernel_rfl) (by kernel_rfl) rfl (O0 := [.agg (y8y m)]) 2 2 (a0g rfl) (by rfl) (by repeat (first | exact BndH.nil | refine BndH.box rfl ?_ | refine BndH.row (v6v fun _ => rfl) ?_)) (by repeat (first | exact BndH.nil | refine BndH.box rfl ?_ | refine BndH.row (v6v fun _ => rfl) ?_)) (by rfl) fun γ => ?_
 show Ex Tryz.prog _ _ [(0, .ptr 0 (γ 0) 0)] [(0, ((γ 0), .box 303 [.ref 1 (γ 1), .fn (.func 127) [] []])), (1, ((γ 1), .row 153 7 ((m :: r).map y8y))), (3, (0, .dead)), (2, (0, .dead))] _
 obtain ⟨T0, hT⟩ : ∃ T0, T0 = ((m :: r).set 0 ((m :: r).getLast (by simp))).take r.length := ⟨_, rfl⟩
 have hres : b2q a2q (m :: r) = a1t a2q T0 0 := by rw [hT]; rfl
 have hTl : T0.length = r.length := by rw [hT]; simp
 have hlast : (m :: r)[(m :: r).length - 1]? = some ((m :: r).getLast (by simp)) := by rw [← List.getLast?_eq_getElem?, List.getLast?_eq_some_getLast]
 refine exR (x2x (id := 2) r9r c7l rfl (exR (q0q rfl (e0x rfl rfl (q2q rfl e0t rfl rfl a2u rfl rfl (y9y rfl a2u rfl rfl ?_))))))
 refine y3y (j := 0) rfl rfl a2u rfl r9r rfl rfl (by simp) ?_
 refine s7s rfl r9r rfl (show (m :: r)[0]? = some m from rfl) rfl rfl ?_
 refine x2x (id := 3) r9r c7l rfl (dv 7 ?_)
 refine w6w (b := 1) rfl rfl (by (simp; done)) (by (simp; omega)) ?_
 refine dv 11 ?_
 refine y3y (j := (m :: r).length - 1) rfl rfl a2u rfl r9r rfl rfl (by simp) ?_
 refine dv 1 ?_
 refine y3y (j := 0) rfl rfl a2u rfl r9r rfl rfl (by simp) ?_
 refine u3u (el' := ((m :: r).getLast (by simp))) rfl rfl r9r rfl rfl rfl (show (m :: r)[0]? = some m from rfl) rfl (a0x _) rfl rfl ?_
 refine dv 7 ?_
 refine d6f p1p (u := (m :: r).length - 1) (ys := T0.map y8y) rfl a2u rfl r9r rfl rfl rfl (by (simp; done)) (by rw [hT, List.map_take]; rfl) ?_
 refine dv 6 ?_
 refine x5x (ι := Nat × List Ev) (fun i γ1 => [(5, pI (i.1 : Int))]) (fun i γ1 => [(1, ((γ1 1), .row 153 7 ((i.2).map y8y))), (0, ((γ 0), .box 303 [.ref 1 (γ1 1), .fn (.func 127) [] []]))]) (fun i => a1t a2q i.2 i.1 = b2q a2q (m :: r) ∧ i.2.length = r.length ∧ i.1 ≤ r.length) (fun i => i.2.length - i.1) (q3q [0, 2, 3, 4] rfl) (a0j [2, 3] rfl) (0, T0) ⟨hres.symm, hTl, by omega⟩ [0, _] x6x x4x rfl fun i γ1 hi => ?_
 obtain ⟨k, t⟩ := i
 obtain ⟨h1, h2, h3⟩ := hi
 dsimp only at h1 h2 h3 ⊢
 refine dv 3 ?_
 refine b7a (a := 2) rfl rfl (by omega) (x7x (b := 1) rfl rfl (by omega) (dc 6 (fun K K' => aI ?_ ?_)))<;>intro h<;>try simp at h
 ·have hfin := (a5z (lt := a2q) (l := t) (k := k) (by omega)).symm.trans h1
  refine dv 4 ?_
  exact ⟨[γ 0, _], rfl, rfl, HE.box rfl rfl (HE.row rfl (by rw [← hfin]) HE.nil)⟩
 have hlt : 2 * k + 1 < t.length := by omega
 refine dv 1 ?_
 refine w8w (ι := Unit) (fun _i γ2 => [(6, pI (a3q a2q t k : Int))]) (fun _i γ2 => []) (fun _i => True) (q3q [0, 2, 3, 4, 5] rfl) (a0j [0, 1, 2, 3] rfl) ?_ fun _i γ2 hi => ?_
 ·refine dv 2 ?_
  refine x7x (b := 1) rfl rfl (by omega) (dc 3 (aS ?_ ?_))<;>intro h<;>try simp at h
  ·have hlt2 : ¬ 2 * k + 2 < t.length := by omega
   refine dv 22 ?_
   exact ⟨(), trivial, [], (Cov.cons' (t := 6) rfl (by rw [e2q (by omega)]) Cov.nil), x6x, x4x, x4x, rfl⟩
  have hlt2 : 2 * k + 1 + 1 < t.length := by omega
  obtain ⟨c1, hc1⟩ := gE t (2 * k + 1 + 1)
  obtain ⟨d1, hd1⟩ := gE t (2 * k + 1)
  refine dv 9 ?_
  refine x7x (b := 1) rfl rfl (by omega) (dv 0 ?_)
  refine y3y (j := 2 * k + 1 + 1) rfl rfl a2u rfl r9r rfl rfl (by omega) ?_
  refine dv 6 ?_
  refine y3y (j := 2 * k + 1) rfl rfl a2u rfl r9r rfl rfl (by omega) ?_
  refine dv 1 ?_
  refine x0x rfl rfl rfl (a7j _ _) (dc 1 (aS ?_ ?_))<;>intro hc4<;>try simp at hc4
  ·try have hl1 := hc4
   refine dv 1 ?_
   exact ⟨(), trivial, [], (Cov.cons' (t := 6) rfl (by rw [e2p hc1 hd1 hl1]) Cov.nil), x6x, x4x, x4x, rfl⟩
  have hl1 := hc4
  refine dv 2 ?_
  refine x7x (b := 1) rfl rfl (by omega) (dv 1 ?_)
  exact ⟨(), trivial, [], (Cov.cons' (t := 6) rfl (by rw [e2o hc1 hd1 hl1]) Cov.nil), x6x, x4x, x4x, rfl⟩
 ·try dsimp only [a9u, a9v]
  have hch := b2n (lt := a2q) t k
  obtain ⟨a, ha⟩ := gE t (a3q a2q t k)
  obtain ⟨b, hb⟩ := gE t k
  refine dv 11 fun K K' => ?_
  refine y3y (j := a3q a2q t k) rfl rfl a2u rfl r9r rfl rfl (by omega) ?_
  refine dv 6 ?_
  refine y3y (j := k) rfl rfl a2u rfl r9r rfl rfl (by omega) ?_
  refine dv 1 ?_
  refine x0x rfl rfl rfl (a7j _ _) (dc 1 (aI ?_ ?_))<;>intro hc7<;>try simp at hc7
  ·have hfin := (b2p ha hb hc7).symm.trans h1
   refine dv 4 ?_
   exact ⟨[γ 0, _], rfl, rfl, HE.box rfl rfl (HE.row rfl (by rw [← hfin]) HE.nil)⟩
  have hg := hc7
  refine dv 17 ?_
  refine y3y (j := a3q a2q t k) rfl rfl a2u rfl r9r rfl rfl (by omega) ?_
  refine dv 6 ?_
  refine y3y (j := k) rfl rfl a2u rfl r9r rfl rfl (by omega) ?_
  refine dv 1 ?_
  refine y3y (j := k) rfl rfl a2u rfl r9r rfl rfl (by omega) ?_
  refine u3u (el' := a) rfl rfl r9r rfl rfl rfl hb rfl (a0x _) rfl rfl ?_
  refine y3y (j := a3q a2q t k) rfl rfl a2u rfl r9r rfl rfl (by rw [List.length_set]; omega) ?_
  refine u3u (el' := b) rfl rfl r9r rfl rfl rfl (by rw [List.getElem?_set_ne (by omega)]; exact ha) rfl (a0x _) rfl rfl ?_
  refine dv 3 ?_
  exact ⟨(a3q a2q t k, sw t (a3q a2q t k) k), ⟨⟨by rw [← h1, b2o (by omega) ha hb hg], by rw [b0j]; exact h2, by dsimp only; omega⟩, (by dsimp only; rw [b0j]; omega)⟩, [0, _], x6x, x6x, (HE.row rfl (by rw [e2l ha hb, List.set_comm _ _ (by omega)]) (HE.box rfl rfl HE.nil)), x4x, rfl⟩
theorem a6z (l : List Ev) (hl : l.length ≤ 1000000000) : Meth Tryz.prog 276 2 [0] [.ptr 0 0 0] [(0, (0, .box 303 [.ref 1 0, .fn (.func 127) [] []])), (1, (0, .row 153 7 ((l).map y8y)))] (.row (.rd true) 153 7 ((a4s a2q l.length l).map y8y)) [(0, (0, .box 303 [.ref 1 0, .fn (.func 127) [] []])), (1, (0, .row 153 7 ((([] : List Ev)).map y8y)))] := by
 refine mX Tryz.f276 [.row (.rd true) 153 7 ((a4s a2q l.length l).map y8y)] 2 3 fun γ => ?_
 refine dv 8 ?_
 refine c8u p1p (id := 2) a2u rfl r9r rfl rfl (by (simp only [s3s, r0r, r5r, r8r, T153]; omega)) (by (unfold maxLen; omega)) rfl ?_
 refine dv 3 fun K K' => ?_
 refine x5x (ι := List Ev × List Ev) (fun i γ1 => [(3, .ref 2 (γ1 2))]) (fun i γ1 => [(1, ((γ1 1), .row 153 7 ((i.1).map y8y))), (2, ((γ1 2), .row 153 7 ((i.2).map y8y))), (0, ((γ 0), .box 303 [.ref 1 (γ1 1), .fn (.func 127) [] []])), (3, ((γ1 3), .dead)), (4, ((γ1 4), .dead))]) (fun i => i.2 ++ a4s a2q i.1.length i.1 = a4s a2q l.length l ∧ i.1.length + i.2.length = l.length) (fun i => i.1.length) (y0y 0 rfl Cov.nil) HE.nil (l, []) ⟨rfl, rfl⟩ [0, _, _, _, _] x6x x4x rfl fun i γ1 hi => ?_
 obtain ⟨ls, o⟩ := i
 obtain ⟨h1, h2⟩ := hi
 dsimp only at h1 h2 ⊢
 refine dc 8 (fun K K' => aS ?_ ?_)<;>intro hc3<;>try simp at hc3
 ·obtain rfl : ls = [] := hc3
  have ho : o = a4s a2q l.length l := by rw [← h1]; simp [a4s]
  subst ho
  refine dv 1 ?_
  refine w5w 3 rfl rfl (fun _ => rfl) ?_
  refine dv 4 ?_
  exact ⟨[γ 0, _], rfl, rfl, x4x⟩
 obtain ⟨m, r, rfl⟩ : ∃ m r, ls = m :: r := by cases ls with | nil => simp at hc3 | cons m r => exact ⟨m, r, rfl⟩
 simp only [r5r] at h2
 refine dv 5 ?_
 refine rlM [0, 1] [_, _] (a8h m r (by omega)) rfl rfl rfl ?_
 refine y2y (id := 3) a2u rfl r9r rfl rfl rfl rfl rfl rfl (y7y rfl rfl a2u rfl r9r rfl rfl rfl rfl (by rfl) (z7z _ _ _) (by (simp only [s3s, r0r, r5r, r8r, T153]; omega)) ?_)
 refine dv 1 ?_
 exact ⟨(b2q a2q (m :: r), o ++ [m]), ⟨⟨by rw [← h1, a9f, List.append_assoc]; rfl, by rw [a9f, List.length_append]; simp only [r5r, r8r] at h2 ⊢; omega⟩, (by dsimp only; rw [a9f]; simp)⟩, [0, _, _, _, _], x6x, x6x, (HE.row rfl rfl (HE.row rfl (by simp) (HE.box rfl rfl (HE.kill rfl (HE.kill rfl HE.nil))))), x4x, rfl⟩
end
section
theorem a3l (c : Bool) (l : List Ev) (hl : l.length ≤ 1000000000) : Meth Tryz.prog 210 1 [] [s1s c l] [(0, (0, .dead))] (.ref 0 0) [(0, (0, .row 56 7 ((z5z l).map y8y)))] := by
 refine mX Tryz.f210 [.ref 0 0] 1 8 fun γ => ?_
 refine dv 3 ?_
 refine rlB e0t e9j ?_
 refine x2x (id := 1) e0t e9j rfl (dv 2 ?_)
 refine c7o (id := 2) rfl (dv 7 fun K K' => ?_)
 refine a0f 1 0 7 153 7 rfl rfl rfl rfl rfl ?_
 refine x5x (ι := Nat) (fun i γ1 => [(15, pI (i : Int))]) (fun i γ1 => [(7, ((γ1 7), .row 153 7 ((b2r a2q (q4q (l.take i))).map y8y))), (1, ((0 + 1), .box 303 [.ref 7 (γ1 7), .fn (.func 127) [] []])), (2, ((0 + 1), .map (b1c (l.take i)))), (3, ((γ1 3), .dead)), (4, ((γ1 4), .dead))]) (fun i => i ≤ l.length) (fun i => l.length - i) (q3q [3, 4, 13, 14] rfl) (a0j [0, 5, 6, 8] rfl) 0 (by omega) [0, 0, 0, _, _, 0, 0, _] x6x (HE.row rfl (by rw [List.take_zero]; try rfl) (HE.box rfl rfl (HE.map rfl (by rw [List.take_zero]; try rfl) (HE.kill rfl (HE.kill rfl HE.nil))))) rfl fun i γ1 hi => ?_
 refine dc 3 (fun K K' => aS ?_ ?_)<;>intro o<;>try simp at o
 ·obtain rfl : i = l.length := by omega
  obtain ⟨H, hH⟩ : ∃ H, H = b2r a2q (q4q (l.take l.length)) := ⟨_, rfl⟩
  rw [← hH]
  have hhl : H.length ≤ 1000000000 := by rw [hH, a9g]; exact Nat.le_trans (c0m _) (by rw [List.length_take]; omega)
  refine dv 5 ?_
  refine c8u p1p (id := 0) u4u rfl z2z rfl rfl (by (simp only [s3s, r0r, r5r, r8r, T56]; omega)) (by (unfold maxLen; omega)) rfl ?_
  refine dv 3 fun K K' => ?_
  refine rlM [1, 7] [_, _] (a6z _ hhl) rfl rfl rfl ?_
  refine dv 3 ?_
  obtain ⟨D, hD⟩ : ∃ D, D = a4s a2q H.length H := ⟨_, rfl⟩
  rw [← hD]
  have hDl : D.length ≤ 1000000000 := Nat.le_trans (by rw [hD]; exact c3s _ _) hhl
  refine x5x (ι := Nat) (fun i γ3 => [(8, .ref 0 (γ3 0)), (40, pI (i : Int))]) (fun i γ3 => [(0, ((γ3 0), .row 56 7 ((D.take i).map y8y))), (5, ((γ3 5), .dead)), (6, ((γ3 6), .dead)), (7, ((γ3 7), .dead))]) (fun i => i ≤ D.length) (fun i => D.length - i) (q3q [38, 39] rfl) (a0j [1, 2, 3, 4, 8] rfl) 0 (by omega) [_, 0, 0, 0, 0, _, _, _] x6x (HE.row rfl (by rw [List.take_zero]; try rfl) (HE.kill rfl (HE.kill rfl (HE.kill rfl HE.nil)))) rfl fun i γ3 hi => ?_
  refine dc 3 (fun K K' => aS ?_ ?_)<;>intro o<;>try simp at o
  ·refine dv 5 ?_
   exact ⟨[_], rfl, rfl, HE.row rfl (by rw [List.take_of_length_le (by omega), hD, hH, List.take_length, a9g, c3u]) HE.nil⟩
  obtain ⟨k1, hk1⟩ := gE D i
  have hDi : (D.take i).length ≤ 1000000000 := by rw [List.length_take]; omega
  refine dv 6 fun K K' => ?_
  refine x2x (id := 5) r9r c7l rfl (dv 4 ?_)
  refine x0x rfl rfl rfl (b5d ..) (y2y (id := 6) u4u rfl z2z rfl rfl rfl rfl rfl rfl (y7y rfl rfl u4u rfl z2z rfl rfl rfl rfl (by rfl) (z7z _ _ _) (by (simp only [s3s, r0r, r5r, r8r, T56]; omega)) ?_))
  refine dv 2 ?_
  refine x7x (b := 1) rfl rfl (by omega) (dv 1 ?_)
  exact ⟨i + 1, ⟨by omega, by omega⟩, [_, 0, 0, 0, 0, _, _, _], x6x, x6x, (HE.row rfl (by rw [z8z hk1]) (HE.kill rfl (HE.kill rfl (HE.kill rfl HE.nil)))), x4x, rfl⟩
 obtain ⟨e, he⟩ := gE l i
 have hcnt : (l.take i).count e ≤ 1000000000 := Nat.le_trans List.count_le_length (by rw [List.length_take]; omega)
 refine dv 6 fun K K' => ?_
 refine x2x (id := 3) z2z a6n rfl (dv 3 ?_)
 refine x0x rfl rfl rfl (b5c ..) (x2x (id := 4) r9r c7l rfl (dv 1 ?_))
 refine w8w (ι := Unit) (fun _i γ2 => []) (fun _i γ2 => [(2, ((0 + 1), .map (b1c (l.take i ++ [e]))))]) (fun _i => True) (q3q [3, 4, 7, 13, 14, 15] rfl) (a0j [0, 1, 3, 4, 5, 6, 7, 8] rfl) ?_ fun _i γ2 hi => ?_
 ·refine c6i c3d rfl fun B X0 w0 => ?_
  refine u5u p1p (l := [0, 1]) (by kernel_rfl) (by decide) ?_
  refine .cons rfl rfl rfl ?_ ?_
  ·refine dv 1 ?_
   refine u5u p1p (l := [1]) (by kernel_rfl) (by decide) ?_
   refine .cons rfl rfl rfl ?_ ?_
   ·refine dv 1 ?_
    refine u5u p1p (l := [2, 4]) (by kernel_rfl) (by decide) ?_
    refine .cons rfl rfl rfl ?_ ?_
    ·refine a5w p1p (ks := q4q (l.take i)) (k := e) Tryz.underlying304 evF rfl rfl (fun _ _ _ h => a6u h) rfl (a2n (l.take i)) (c1h s4s rfl (l.take i) e) ?_
     refine dv 0 ?_
     refine u5u p1p (l := [3, 4]) (by kernel_rfl) (by decide) ?_
     refine .cons rfl rfl rfl ?_ ?_
     ·refine x7x (b := 1) rfl rfl (by omega) (dv 0 ?_)
      refine u5u p1p (l := [4]) (by kernel_rfl) (by decide) ?_
      refine .cons rfl rfl rfl ?_ ?_
      ·refine a6t p1p (es' := b7u (l.take i) e) (j := a4o (l.take i) e) (out := pI ((l.take i).count e : Nat)) (ks := q4q (l.take i)) (k := e) Tryz.underlying304 evF rfl rfl (fun _ _ _ h => a6u h) rfl (a2n _) (a5g s4s rfl _ _) ?_
       refine dv 0 ?_
       refine u5u p1p (l := [5]) (by kernel_rfl) (by decide) ?_
       refine .cons rfl rfl rfl ?_ ?_
       ·refine dv 1 ?_
        refine u5u p1p (l := [6]) (by kernel_rfl) (by decide) ?_
        refine .cons rfl rfl rfl ?_ ?_
        ·refine a0c (j := a4o (l.take i) e) rfl rfl rfl rfl (a2o _ _) (a3k _ _) ?_
         refine dv 0 ?_
         refine a3e (by kernel_rfl) ?_
         exact ⟨(), trivial, [], x6x, x6x, (HE.map rfl rfl HE.nil), x4x, rfl⟩
        exact .nil
       exact .nil
      exact .nil
     refine .cons rfl rfl rfl ?_ ?_
     ·refine a6t p1p (es' := b7u (l.take i) e) (j := a4o (l.take i) e) (out := pI ((l.take i).count e : Nat)) (ks := q4q (l.take i)) (k := e) Tryz.underlying304 evF rfl rfl (fun _ _ _ h => a6u h) rfl (a2n _) (a5g s4s rfl _ _) ?_
      refine dv 0 ?_
      refine u5u p1p (l := [3, 5]) (by kernel_rfl) (by decide) ?_
      refine .cons rfl rfl rfl ?_ ?_
      ·refine x7x (b := 1) rfl rfl (by omega) (dv 0 ?_)
       refine u5u p1p (l := [5]) (by kernel_rfl) (by decide) ?_
       refine .cons rfl rfl rfl ?_ ?_
       ·refine dv 1 ?_
        refine u5u p1p (l := [6]) (by kernel_rfl) (by decide) ?_
        refine .cons rfl rfl rfl ?_ ?_
        ·refine a0c (j := a4o (l.take i) e) rfl rfl rfl rfl (a2o _ _) (a3k _ _) ?_
         refine dv 0 ?_
         refine a3e (by kernel_rfl) ?_
         exact ⟨(), trivial, [], x6x, x6x, (HE.map rfl rfl HE.nil), x4x, rfl⟩
        exact .nil
       exact .nil
      refine .cons rfl rfl rfl ?_ ?_
      ·refine dv 1 ?_
       refine u5u p1p (l := [3]) (by kernel_rfl) (by decide) ?_
       refine .cons rfl rfl rfl ?_ ?_
       ·refine x7x (b := 1) rfl rfl (by omega) (dv 0 ?_)
        refine u5u p1p (l := [6]) (by kernel_rfl) (by decide) ?_
        refine .cons rfl rfl rfl ?_ ?_
        ·refine a0c (j := a4o (l.take i) e) rfl rfl rfl rfl (a2o _ _) (a3k _ _) ?_
         refine dv 0 ?_
         refine a3e (by kernel_rfl) ?_
         exact ⟨(), trivial, [], x6x, x6x, (HE.map rfl rfl HE.nil), x4x, rfl⟩
        exact .nil
       exact .nil
      exact .nil
     exact .nil
    refine .cons rfl rfl rfl ?_ ?_
    ·refine a6t p1p (es' := b7u (l.take i) e) (j := a4o (l.take i) e) (out := pI ((l.take i).count e : Nat)) (ks := q4q (l.take i)) (k := e) Tryz.underlying304 evF rfl rfl (fun _ _ _ h => a6u h) rfl (a2n _) (a5g s4s rfl _ _) ?_
     refine dv 0 ?_
     refine u5u p1p (l := [2, 5]) (by kernel_rfl) (by decide) ?_
     refine .cons rfl rfl rfl ?_ ?_
     ·refine a5w p1p (ks := e8y (l.take i) e) (k := e) Tryz.underlying304 evF rfl rfl (fun _ _ _ h => a6u h) rfl (b5u (l.take i) e) (b5v (l.take i) e) ?_
      refine dv 0 ?_
      refine u5u p1p (l := [3, 5]) (by kernel_rfl) (by decide) ?_
      refine .cons rfl rfl rfl ?_ ?_
      ·refine x7x (b := 1) rfl rfl (by omega) (dv 0 ?_)
       refine u5u p1p (l := [5]) (by kernel_rfl) (by decide) ?_
       refine .cons rfl rfl rfl ?_ ?_
       ·refine dv 1 ?_
        refine u5u p1p (l := [6]) (by kernel_rfl) (by decide) ?_
        refine .cons rfl rfl rfl ?_ ?_
        ·refine a0c (j := a4o (l.take i) e) rfl rfl rfl rfl (a2o _ _) (a3k _ _) ?_
         refine dv 0 ?_
         refine a3e (by kernel_rfl) ?_
         exact ⟨(), trivial, [], x6x, x6x, (HE.map rfl rfl HE.nil), x4x, rfl⟩
        exact .nil
       exact .nil
      refine .cons rfl rfl rfl ?_ ?_
      ·refine dv 1 ?_
       refine u5u p1p (l := [3]) (by kernel_rfl) (by decide) ?_
       refine .cons rfl rfl rfl ?_ ?_
       ·refine x7x (b := 1) rfl rfl (by omega) (dv 0 ?_)
        refine u5u p1p (l := [6]) (by kernel_rfl) (by decide) ?_
        refine .cons rfl rfl rfl ?_ ?_
        ·refine a0c (j := a4o (l.take i) e) rfl rfl rfl rfl (a2o _ _) (a3k _ _) ?_
         refine dv 0 ?_
         refine a3e (by kernel_rfl) ?_
         exact ⟨(), trivial, [], x6x, x6x, (HE.map rfl rfl HE.nil), x4x, rfl⟩
        exact .nil
       exact .nil
      exact .nil
     refine .cons rfl rfl rfl ?_ ?_
     ·refine dv 1 ?_
      refine u5u p1p (l := [2]) (by kernel_rfl) (by decide) ?_
      refine .cons rfl rfl rfl ?_ ?_
      ·refine a5w p1p (ks := e8y (l.take i) e) (k := e) Tryz.underlying304 evF rfl rfl (fun _ _ _ h => a6u h) rfl (b5u (l.take i) e) (b5v (l.take i) e) ?_
       refine dv 0 ?_
       refine u5u p1p (l := [3]) (by kernel_rfl) (by decide) ?_
       refine .cons rfl rfl rfl ?_ ?_
       ·refine x7x (b := 1) rfl rfl (by omega) (dv 0 ?_)
        refine u5u p1p (l := [6]) (by kernel_rfl) (by decide) ?_
        refine .cons rfl rfl rfl ?_ ?_
        ·refine a0c (j := a4o (l.take i) e) rfl rfl rfl rfl (a2o _ _) (a3k _ _) ?_
         refine dv 0 ?_
         refine a3e (by kernel_rfl) ?_
         exact ⟨(), trivial, [], x6x, x6x, (HE.map rfl rfl HE.nil), x4x, rfl⟩
        exact .nil
       exact .nil
      exact .nil
     exact .nil
    exact .nil
   exact .nil
  refine .cons rfl rfl rfl ?_ ?_
  ·refine dv 1 ?_
   refine u5u p1p (l := [0]) (by kernel_rfl) (by decide) ?_
   refine .cons rfl rfl rfl ?_ ?_
   ·refine dv 1 ?_
    refine u5u p1p (l := [2, 4]) (by kernel_rfl) (by decide) ?_
    refine .cons rfl rfl rfl ?_ ?_
    ·refine a5w p1p (ks := q4q (l.take i)) (k := e) Tryz.underlying304 evF rfl rfl (fun _ _ _ h => a6u h) rfl (a2n (l.take i)) (c1h s4s rfl (l.take i) e) ?_
     refine dv 0 ?_
     refine u5u p1p (l := [3, 4]) (by kernel_rfl) (by decide) ?_
     refine .cons rfl rfl rfl ?_ ?_
     ·refine x7x (b := 1) rfl rfl (by omega) (dv 0 ?_)
      refine u5u p1p (l := [4]) (by kernel_rfl) (by decide) ?_
      refine .cons rfl rfl rfl ?_ ?_
      ·refine a6t p1p (es' := b7u (l.take i) e) (j := a4o (l.take i) e) (out := pI ((l.take i).count e : Nat)) (ks := q4q (l.take i)) (k := e) Tryz.underlying304 evF rfl rfl (fun _ _ _ h => a6u h) rfl (a2n _) (a5g s4s rfl _ _) ?_
       refine dv 0 ?_
       refine u5u p1p (l := [5]) (by kernel_rfl) (by decide) ?_
       refine .cons rfl rfl rfl ?_ ?_
       ·refine dv 1 ?_
        refine u5u p1p (l := [6]) (by kernel_rfl) (by decide) ?_
        refine .cons rfl rfl rfl ?_ ?_
        ·refine a0c (j := a4o (l.take i) e) rfl rfl rfl rfl (a2o _ _) (a3k _ _) ?_
         refine dv 0 ?_
         refine a3e (by kernel_rfl) ?_
         exact ⟨(), trivial, [], x6x, x6x, (HE.map rfl rfl HE.nil), x4x, rfl⟩
        exact .nil
       exact .nil
      exact .nil
     refine .cons rfl rfl rfl ?_ ?_
     ·refine a6t p1p (es' := b7u (l.take i) e) (j := a4o (l.take i) e) (out := pI ((l.take i).count e : Nat)) (ks := q4q (l.take i)) (k := e) Tryz.underlying304 evF rfl rfl (fun _ _ _ h => a6u h) rfl (a2n _) (a5g s4s rfl _ _) ?_
      refine dv 0 ?_
      refine u5u p1p (l := [3, 5]) (by kernel_rfl) (by decide) ?_
      refine .cons rfl rfl rfl ?_ ?_
      ·refine x7x (b := 1) rfl rfl (by omega) (dv 0 ?_)
       refine u5u p1p (l := [5]) (by kernel_rfl) (by decide) ?_
       refine .cons rfl rfl rfl ?_ ?_
       ·refine dv 1 ?_
        refine u5u p1p (l := [6]) (by kernel_rfl) (by decide) ?_
        refine .cons rfl rfl rfl ?_ ?_
        ·refine a0c (j := a4o (l.take i) e) rfl rfl rfl rfl (a2o _ _) (a3k _ _) ?_
         refine dv 0 ?_
         refine a3e (by kernel_rfl) ?_
         exact ⟨(), trivial, [], x6x, x6x, (HE.map rfl rfl HE.nil), x4x, rfl⟩
        exact .nil
       exact .nil
      refine .cons rfl rfl rfl ?_ ?_
      ·refine dv 1 ?_
       refine u5u p1p (l := [3]) (by kernel_rfl) (by decide) ?_
       refine .cons rfl rfl rfl ?_ ?_
       ·refine x7x (b := 1) rfl rfl (by omega) (dv 0 ?_)
        refine u5u p1p (l := [6]) (by kernel_rfl) (by decide) ?_
        refine .cons rfl rfl rfl ?_ ?_
        ·refine a0c (j := a4o (l.take i) e) rfl rfl rfl rfl (a2o _ _) (a3k _ _) ?_
         refine dv 0 ?_
         refine a3e (by kernel_rfl) ?_
         exact ⟨(), trivial, [], x6x, x6x, (HE.map rfl rfl HE.nil), x4x, rfl⟩
        exact .nil
       exact .nil
      exact .nil
     exact .nil
    refine .cons rfl rfl rfl ?_ ?_
    ·refine a6t p1p (es' := b7u (l.take i) e) (j := a4o (l.take i) e) (out := pI ((l.take i).count e : Nat)) (ks := q4q (l.take i)) (k := e) Tryz.underlying304 evF rfl rfl (fun _ _ _ h => a6u h) rfl (a2n _) (a5g s4s rfl _ _) ?_
     refine dv 0 ?_
     refine u5u p1p (l := [2, 5]) (by kernel_rfl) (by decide) ?_
     refine .cons rfl rfl rfl ?_ ?_
     ·refine a5w p1p (ks := e8y (l.take i) e) (k := e) Tryz.underlying304 evF rfl rfl (fun _ _ _ h => a6u h) rfl (b5u (l.take i) e) (b5v (l.take i) e) ?_
      refine dv 0 ?_
      refine u5u p1p (l := [3, 5]) (by kernel_rfl) (by decide) ?_
      refine .cons rfl rfl rfl ?_ ?_
      ·refine x7x (b := 1) rfl rfl (by omega) (dv 0 ?_)
       refine u5u p1p (l := [5]) (by kernel_rfl) (by decide) ?_
       refine .cons rfl rfl rfl ?_ ?_
       ·refine dv 1 ?_
        refine u5u p1p (l := [6]) (by kernel_rfl) (by decide) ?_
        refine .cons rfl rfl rfl ?_ ?_
        ·refine a0c (j := a4o (l.take i) e) rfl rfl rfl rfl (a2o _ _) (a3k _ _) ?_
         refine dv 0 ?_
         refine a3e (by kernel_rfl) ?_
         exact ⟨(), trivial, [], x6x, x6x, (HE.map rfl rfl HE.nil), x4x, rfl⟩
        exact .nil
       exact .nil
      refine .cons rfl rfl rfl ?_ ?_
      ·refine dv 1 ?_
       refine u5u p1p (l := [3]) (by kernel_rfl) (by decide) ?_
       refine .cons rfl rfl rfl ?_ ?_
       ·refine x7x (b := 1) rfl rfl (by omega) (dv 0 ?_)
        refine u5u p1p (l := [6]) (by kernel_rfl) (by decide) ?_
        refine .cons rfl rfl rfl ?_ ?_
        ·refine a0c (j := a4o (l.take i) e) rfl rfl rfl rfl (a2o _ _) (a3k _ _) ?_
         refine dv 0 ?_
         refine a3e (by kernel_rfl) ?_
         exact ⟨(), trivial, [], x6x, x6x, (HE.map rfl rfl HE.nil), x4x, rfl⟩
        exact .nil
       exact .nil
      exact .nil
     refine .cons rfl rfl rfl ?_ ?_
     ·refine dv 1 ?_
      refine u5u p1p (l := [2]) (by kernel_rfl) (by decide) ?_
      refine .cons rfl rfl rfl ?_ ?_
      ·refine a5w p1p (ks := e8y (l.take i) e) (k := e) Tryz.underlying304 evF rfl rfl (fun _ _ _ h => a6u h) rfl (b5u (l.take i) e) (b5v (l.take i) e) ?_
       refine dv 0 ?_
       refine u5u p1p (l := [3]) (by kernel_rfl) (by decide) ?_
       refine .cons rfl rfl rfl ?_ ?_
       ·refine x7x (b := 1) rfl rfl (by omega) (dv 0 ?_)
        refine u5u p1p (l := [6]) (by kernel_rfl) (by decide) ?_
        refine .cons rfl rfl rfl ?_ ?_
        ·refine a0c (j := a4o (l.take i) e) rfl rfl rfl rfl (a2o _ _) (a3k _ _) ?_
         refine dv 0 ?_
         refine a3e (by kernel_rfl) ?_
         exact ⟨(), trivial, [], x6x, x6x, (HE.map rfl rfl HE.nil), x4x, rfl⟩
        exact .nil
       exact .nil
      exact .nil
     exact .nil
    exact .nil
   exact .nil
  exact .nil
 ·try dsimp only [a9u, a9v]
  refine dv 3 ?_
  refine a5w p1p (ks := q4q (l.take i ++ [e])) (k := e) Tryz.underlying304 evF rfl rfl (fun _ _ _ h => a6u h) rfl (a2n (l.take i ++ [e])) (c1h s4s rfl (l.take i ++ [e]) e) ?_
  refine dc 1 (aS ?_ ?_)<;>intro hc5<;>try simp at hc5
  ·have hq : ¬ (l.take i ++ [e]).count e = 1 := by (have := hc5; simp at this ⊢; omega)
   refine dv 2 ?_
   refine x7x (b := 1) rfl rfl (by omega) (dv 1 ?_)
   exact ⟨i + 1, ⟨by omega, by omega⟩, [0, 0, 0, _, _, 0, 0, _], x6x, x6x, (HE.row rfl (by rw [z8z he, d5h hq]) (HE.box rfl rfl (HE.map rfl (by rw [z8z he]) (HE.kill rfl (HE.kill rfl HE.nil))))), x4x, rfl⟩
  have hq : (l.take i ++ [e]).count e = 1 := by (have := hc5; simp at this ⊢; omega)
  have hpl : (b2r a2q (q4q (l.take i))).length ≤ 1000000000 := by rw [a9g]; exact Nat.le_trans (c0m _) (by rw [List.length_take]; omega)
  refine dv 2 ?_
  refine rlM [1, 7] [_, _] (a7y _ e hpl) rfl rfl rfl ?_
  refine dv 1 ?_
  refine x7x (b := 1) rfl rfl (by omega) (dv 1 ?_)
  exact ⟨i + 1, ⟨by omega, by omega⟩, [0, 0, 0, _, _, 0, 0, _], x6x, x6x, (HE.row rfl (by rw [z8z he, d5g hq]) (HE.box rfl rfl (HE.map rfl (by rw [z8z he]) (HE.kill rfl (HE.kill rfl HE.nil))))), x4x, rfl⟩
end
section
theorem a3s (c : Bool) (a : Ev) (l : List Ev) (hl : (a :: l).length ≤ 10000000) : Meth Tryz.prog 245 1 [] [s1s c (a :: l)] [(0, (0, .dead))] (.ref 0 0) [(0, (0, .row 56 7 ((a :: l).map y8y)))] := by
 refine mX Tryz.f245 [.ref 0 0] 1 1 fun γ => ?_
 refine dv 5 fun K K' => ?_
 refine a9b rfl rfl (by (intro p q h; cases h)) (.inl rfl) (d4h Tryz.underlying47 _ _ (by simp)) ?_
 refine a1e rfl (fun hc2 => ?_) (fun hc2 => ?_)
 ·simp [a2c] at hc2
 try simp at hc2
 refine dv 2 ?_
 refine y1y (id := 0) u4u rfl z2z rfl (dv 1 ?_)
 refine w2w (zs := (a :: l).map y8y) rfl rfl u4u rfl z2z rfl rfl rfl (z6z (fun _ => rfl) _) rfl (by (simp only [s3s, r0r, r5r, r8r, a0p, T56] at *; omega)) ?_
 refine dv 2 ?_
 exact ⟨[_], rfl, rfl, x4x⟩
theorem a3x (c : Bool) : Meth Tryz.prog 245 1 [] [s1s c []] [(0, (0, .dead))] (.ref 0 0) [(0, (0, .row 56 7 (([] : List Ev).map y8y)))] := by
 refine mX Tryz.f245 [.ref 0 0] 1 1 fun γ => ?_
 refine c8x 0 rfl fun A0 cap hcap => ?_
 refine dv 5 fun K K' => ?_
 refine a9b rfl rfl (by (intro p q h h2; cases h; cases h2; rfl)) (.inl rfl) (c3n Tryz.underlying47 _ _ _ _ _) ?_
 refine dc 0 (aI ?_ ?_)<;>intro j<;>try simp at j
 ·refine dv 2 ?_
  refine a1m 2 0 56 7 rfl rfl (dv 1 ?_)
  exact ⟨[_], rfl, rfl, x4x⟩
 refine dv 1 ?_
 refine e1s 0 56 7 rfl hcap (dv 1 ?_)
 refine y1y (id := 0) u4u rfl z2z rfl (dv 1 ?_)
 refine w2w (zs := ([] : List Ev).map y8y) rfl rfl u4u rfl z2z rfl rfl rfl (by rfl) rfl (by (simp only [s3s, r0r, r5r, r8r, a0p, T56] at *; omega)) ?_
 refine dv 2 ?_
 exact ⟨[_], rfl, rfl, x4x⟩
theorem v2v (c : Bool) (l : List Ev) (hl : l.length ≤ 10000000) : Meth Tryz.prog 245 1 [] [s1s c l] [(0, (0, .dead))] (.ref 0 0) [(0, (0, .row 56 7 (l.map y8y)))] := by
 cases l with
 | nil => exact a3x c
 | cons a l => exact a3s c a l hl
theorem a4p (c : Bool) (a : Ou) (l : List Ou) (hl : (a :: l).length ≤ 10000000) : Meth Tryz.prog 152 1 [] [q7q c (a :: l)] [(0, (0, .dead))] (.ref 0 0) [(0, (0, .row 141 5 ((a :: l).map w3w)))] := by
 refine mX Tryz.f152 [.ref 0 0] 1 1 fun γ => ?_
 refine dv 5 fun K K' => ?_
 refine a9b rfl rfl (by (intro p q h; cases h)) (.inl rfl) (d4h Tryz.underlying29 _ _ (by simp)) ?_
 refine a1e rfl (fun hc2 => ?_) (fun hc2 => ?_)
 ·simp [a2c] at hc2
 try simp at hc2
 refine dv 2 ?_
 refine y1y (id := 0) p5p rfl z9z rfl (dv 1 ?_)
 refine w2w (zs := (a :: l).map w3w) rfl rfl p5p rfl z9z rfl rfl rfl (z6z (fun _ => rfl) _) rfl (by (simp only [s3s, r0r, r5r, r8r, a0p, T141] at *; omega)) ?_
 refine dv 2 ?_
 exact ⟨[_], rfl, rfl, x4x⟩
theorem a4x (c : Bool) : Meth Tryz.prog 152 1 [] [q7q c []] [(0, (0, .dead))] (.ref 0 0) [(0, (0, .row 141 5 (([] : List Ou).map w3w)))] := by
 refine mX Tryz.f152 [.ref 0 0] 1 1 fun γ => ?_
 refine c8x 0 rfl fun A0 cap hcap => ?_
 refine dv 5 fun K K' => ?_
 refine a9b rfl rfl (by (intro p q h h2; cases h; cases h2; rfl)) (.inl rfl) (c3n Tryz.underlying29 _ _ _ _ _) ?_
 refine dc 0 (aI ?_ ?_)<;>intro j<;>try simp at j
 ·refine dv 2 ?_
  refine a1m 2 0 141 5 rfl rfl (dv 1 ?_)
  exact ⟨[_], rfl, rfl, x4x⟩
 refine dv 1 ?_
 refine e1s 0 141 5 rfl hcap (dv 1 ?_)
 refine y1y (id := 0) p5p rfl z9z rfl (dv 1 ?_)
 refine w2w (zs := ([] : List Ou).map w3w) rfl rfl p5p rfl z9z rfl rfl rfl (by rfl) rfl (by (simp only [s3s, r0r, r5r, r8r, a0p, T56] at *; omega)) ?_
 refine dv 2 ?_
 exact ⟨[_], rfl, rfl, x4x⟩
theorem a0m (c : Bool) (l : List Ou) (hl : l.length ≤ 10000000) : Meth Tryz.prog 152 1 [] [q7q c l] [(0, (0, .dead))] (.ref 0 0) [(0, (0, .row 141 5 (l.map w3w)))] := by
 cases l with
 | nil => exact a4x c
 | cons a l => exact a4p c a l hl
theorem a9s (c : Bool) (a : Int) (l : List Int) (hl : (a :: l).length ≤ 10000000) : Meth Tryz.prog 248 1 [] [a4n c (a :: l)] [(0, (0, .dead))] (.ref 0 0) [(0, (0, .row 3 1 ((a :: l).map a3i)))] := by
 refine mX Tryz.f248 [.ref 0 0] 1 1 fun γ => ?_
 refine dv 5 fun K K' => ?_
 refine a9b rfl rfl (by (intro p q h; cases h)) (.inl rfl) (d4h Tryz.underlying63 _ _ (by simp)) ?_
 refine a1e rfl (fun hc2 => ?_) (fun hc2 => ?_)
 ·simp [a2c] at hc2
 try simp at hc2
 refine dv 2 ?_
 refine y1y (id := 0) a0l rfl s4s rfl (dv 1 ?_)
 refine w2w (zs := (a :: l).map a3i) rfl rfl a0l rfl s4s rfl rfl rfl (z6z (fun _ => rfl) _) rfl (by (simp only [s3s, r0r, r5r, r8r, a0p, T3] at *; omega)) ?_
 refine dv 2 ?_
 exact ⟨[_], rfl, rfl, x4x⟩
theorem b0c (c : Bool) : Meth Tryz.prog 248 1 [] [a4n c []] [(0, (0, .dead))] (.ref 0 0) [(0, (0, .row 3 1 (([] : List Int).map a3i)))] := by
 refine mX Tryz.f248 [.ref 0 0] 1 1 fun γ => ?_
 refine c8x 0 rfl fun A0 cap hcap => ?_
 refine dv 5 fun K K' => ?_
 refine a9b rfl rfl (by (intro p q h h2; cases h; cases h2; rfl)) (.inl rfl) (c3n Tryz.underlying63 _ _ _ _ _) ?_
 refine dc 0 (aI ?_ ?_)<;>intro j<;>try simp at j
 ·refine dv 2 ?_
  refine a1m 2 0 3 1 rfl rfl (dv 1 ?_)
  exact ⟨[_], rfl, rfl, x4x⟩
 refine dv 1 ?_
 refine e1s 0 3 1 rfl hcap (dv 1 ?_)
 refine y1y (id := 0) a0l rfl s4s rfl (dv 1 ?_)
 refine w2w (zs := ([] : List Int).map a3i) rfl rfl a0l rfl s4s rfl rfl rfl (by rfl) rfl (by (simp only [s3s, r0r, r5r, r8r, a0p, T56] at *; omega)) ?_
 refine dv 2 ?_
 exact ⟨[_], rfl, rfl, x4x⟩
theorem b4c (c : Bool) (l : List Int) (hl : l.length ≤ 10000000) : Meth Tryz.prog 248 1 [] [a4n c l] [(0, (0, .dead))] (.ref 0 0) [(0, (0, .row 3 1 (l.map a3i)))] := by
 cases l with
 | nil => exact b0c c
 | cons a l => exact a9s c a l hl
end
section
theorem d0u (c : Bool) (n : Nd) (hl : n.lanes.length ≤ 1048576) : Meth Tryz.prog 158 1 [] [.agg (u2u c n)] [(0, (0, .dead))] (.agg [pI n.id, pI n.inc, pI n.g, pI n.led, .ref 0 0, s1s c n.kept, q7q c n.outs]) [(0, (0, .row 41 3 ((n.lanes).map fun l => q8q l.base)))] := by
 refine mX Tryz.f158 [.agg [pI n.id, pI n.inc, pI n.g, pI n.led, .ref 0 0, s1s c n.kept, q7q c n.outs]] 1 6 fun γ => ?_
 refine dv 1 ?_
 refine x8x (id := 1) rfl rfl rfl (x2x (id := 2) d5x e0v rfl (dv 13 ?_))
 refine rlB d5x e0v ?_
 refine x2x (id := 3) d5x e0v rfl (dv 8 fun K K' => ?_)
 refine a0f 3 4 0 41 3 rfl rfl rfl rfl rfl ?_
 refine x5x (ι := Nat) (fun i γ1 => [(22, pI (i : Int))]) (fun i γ1 => [(0, ((γ1 0), .row 41 3 ((n.lanes.take i).map fun l => q8q l.base))), (3, ((0 + 1), .box 160 [pI n.id, pI n.inc, pI n.g, pI n.led, .ref 0 (γ1 0), s1s c n.kept, q7q c n.outs])), (4, ((γ1 4), .dead)), (5, ((γ1 5), .dead)), (6, ((γ1 6), .dead))]) (fun i => i ≤ n.lanes.length) (fun i => n.lanes.length - i) (q3q [2, 3, 20, 21] rfl) (a0j [1, 2] rfl) 0 (by omega) [_, 0, 0, 0, _, _, _] x6x (HE.row rfl (by rw [List.take_zero]; rfl) (HE.box rfl rfl (HE.kill rfl (HE.kill rfl (HE.kill rfl HE.nil))))) rfl fun i γ1 hi => ?_
 refine dc 3 (fun K K' => aS ?_ ?_)<;>intro o<;>try simp at o
 ·obtain rfl : i = n.lanes.length := by omega
  refine dv 5 ?_
  exact ⟨[_], rfl, rfl, HE.row rfl (by rw [List.take_length]) HE.nil⟩
 obtain ⟨p, hp⟩ := gE n.lanes i
 refine dv 6 fun K K' => ?_
 refine x2x (id := 4) a0k a6r rfl (dv 5 ?_)
 refine y9y (out := .agg (q8q p.base)) rfl a2x rfl rfl ?_
 refine y2y (id := 5) d1i rfl a2x rfl rfl rfl rfl rfl rfl ?_
 refine y7y (zs := (n.lanes.take i ++ [p]).map fun l => q8q l.base) rfl rfl d1i rfl a2x rfl rfl rfl rfl (by rfl) (z7z _ _ _) (by (simp only [s3s, r0r, r5r, r8r, a0p, a2m, T41]; omega)) ?_
 refine dv 3 ?_
 refine u1u rfl rfl rfl (dv 1 ?_)
 exact ⟨i + 1, ⟨by omega, by omega⟩, [_, 0, 0, 0, _, _, _], (Cov.cons' (t := 22) rfl (by rw [x9x (by omega) (by omega)]; rfl) Cov.nil), x6x, (HE.row rfl (by rw [z8z hp]) (HE.box rfl rfl (HE.kill rfl (HE.kill rfl (HE.kill rfl HE.nil))))), x4x, rfl⟩
theorem c7a (c : Bool) (n : Nd) (hl : n.lanes.length ≤ 1048576) : Meth Tryz.prog 157 5 [0] [.agg [pI n.id, pI n.inc, pI n.g, pI n.led, .ref 0 0, s1s c n.kept, q7q c n.outs]] [(0, (0, .row 41 3 ((n.lanes).map fun l => q8q l.base))), (1, (0, .dead)), (2, (0, .dead)), (3, (0, .dead)), (4, (0, .dead))] (.ptr 4 0 0) [(4, (0, .box 164 [pI n.id, pI n.inc, pI n.g, pI n.led, .ref 0 0, s1s c n.kept, q7q c n.outs, .pv (.bool false), .ref 1 0, pI 0, .mp 2 0, .ref 3 0, pI 0, pI 41])), (1, (0, .row 42 1 ((n.lanes).map fun _ => [a7g c []]))), (2, (0, .map [])), (3, (0, .row 3 1 ([0, 0, 0].map a3i)))] := by
 refine mX Tryz.f157 [.ptr 4 0 0] 5 1 fun γ => ?_
 refine dv 1 ?_
 refine x8x (id := 5) rfl rfl rfl (dv 6 ?_)
 refine c3h (id := 1) b8k rfl a6m f7g rfl rfl rfl rfl (by (simp only [s3s, r0r, r5r, r8r, a0p, a2m, T42]; omega)) rfl ?_
 refine c7o (id := 2) rfl ?_
 refine c3h (n := 3) (id := 3) a0l rfl s4s f7z rfl rfl rfl rfl (by (simp only [s3s, r0r, r5r, r8r, a0p, a2m, T3]; omega)) rfl ?_
 refine rlB f4h f4l ?_
 refine x8x (id := 4) rfl rfl rfl (dv 1 ?_)
 refine b1o 1 (xs' := n.lanes.map fun _ => [.pv (.slice none 0 0)]) rfl (by simp [List.map_const', T42]) ?_
 refine d1x (f := fun _ => [.pv (.slice none 0 0)]) (f' := fun _ => [a7g c []]) (l := n.lanes) 1 rfl (fun _ => .le rfl .nil rfl .nil) ?_
 refine dv 1 ?_
 exact ⟨[γ 0, _, _, _, _], rfl, rfl, HE.box rfl rfl (HE.row rfl rfl (HE.map rfl rfl (HE.row rfl rfl (HE.same rfl HE.nil))))⟩
theorem b3l (c : Bool) (n : Nd) (hl : n.lanes.length ≤ 1048576) (hv : n.views.length ≤ 1048576) (hk3 : n.known.length = 3) : Meth Tryz.prog 125 5 [] [.agg (u2u c n)] [(0, (0, .dead)), (1, (0, .dead)), (2, (0, .dead)), (3, (0, .dead)), (4, (0, .dead))] (.ptr 4 0 0) [(0, (0, .row 41 3 ((n.lanes).map fun l => q8q l.base))), (1, (0, .row 42 1 ((n.lanes).map fun l => [a7g c l.done]))), (2, (0, .map (b4a c n.views))), (3, (0, .row 3 1 (n.known.map a3i))), (4, (0, .box 164 [pI n.id, pI n.inc, pI n.g, pI n.led, .ref 0 0, s1s c n.kept, q7q c n.outs, .pv (.bool n.up), .ref 1 0, pI n.version, .mp 2 0, .ref 3 0, pI n.round, pI n.low]))] := by
 refine s2s p1p (fn := Tryz.f125) (by kernel_rfl) (by kernel_rfl) rfl (O0 := [.ptr 4 0 0]) 5 3 (a0g rfl) (by rfl) (by repeat (first | exact BndH.nil | refine BndH.dead ?_ )) (by repeat (first | exact BndH.nil | refine BndH.box rfl ?_ | refine BndH.row (v6v fun _ => rfl) ?_ | refine BndH.map (a0w _ _) ?_ )) (by rfl) fun γ => ?_
 show Ex Tryz.prog _ _ [(0, .agg (u2u c n))] [(0, ((γ 0), .dead)), (1, ((γ 1), .dead)), (2, ((γ 2), .dead)), (3, ((γ 3), .dead)), (4, ((γ 4), .dead)), (7, (0, .dead)), (6, (0, .dead)), (5, (0, .dead))] _
 refine dv 1 ?_
 refine x8x (id := 5) rfl rfl rfl (dv 3 ?_)
 refine rlM [0] [_] (d0u c n hl) rfl rfl rfl ?_
 refine rlM [0, 1, 2, 3, 4] [_, _, _, _, _] (c7a c n hl) rfl rfl rfl ?_
 refine dv 8 fun K K' => ?_
 refine x5x (ι := Nat) (fun i γ1 => [(14, pI (i : Int))]) (fun i γ1 => [(1, ((γ 1 + 1), .row 42 1 ((n.lanes.take i).map (fun l => [a7g c l.done]) ++ (n.lanes.drop i).map fun _ => [a7g c []]))), (6, ((γ1 6), .dead))]) (fun i => i ≤ n.lanes.length) (fun i => n.lanes.length - i) (q3q [1, 3, 12, 13] rfl) (a0j [0, 2, 3, 4, 5, 7] rfl) 0 (by omega) [0, 0, 0, 0, 0, 0, _] x6x (HE.row rfl (by rw [List.take_zero, List.drop_zero]; rfl) (HE.kill rfl HE.nil)) rfl fun i γ1 hi => ?_
 refine dc 3 (fun K K' => aI ?_ ?_)<;>intro o<;>try simp at o
 ·obtain ⟨p, hp⟩ := gE n.lanes i
  have hAl : ((n.lanes.take i).map fun l => [a7g c l.done]).length = i := by rw [List.length_map, List.length_take]; omega
  rw [p6p hp, List.map_cons]
  refine dv 7 fun K K' => ?_
  refine x2x (id := 6) a0k a6r rfl (dv 10 ?_)
  refine b4h rfl rfl b8k rfl a6m rfl rfl hAl (e1q hAl rfl rfl a6m rfl rfl rfl rfl rfl rfl rfl rfl (dv 1 ?_))
  refine u1u rfl rfl rfl (dv 1 ?_)
  exact ⟨i + 1, ⟨by omega, by omega⟩, [0, 0, 0, 0, 0, 0, _], (Cov.cons' (t := 14) rfl (by rw [x9x (by omega) (by omega)]; rfl) Cov.nil), x6x, (HE.row rfl (by rw [z8z hp, List.map_append, List.append_assoc]; rfl) (HE.kill rfl HE.nil)), x4x, rfl⟩
 obtain rfl : i = n.lanes.length := by omega
 refine dv 8 fun K K' => ?_
 refine x5x (ι := Nat) (fun j γ2 => [(31, pI (j : Int))]) (fun j γ2 => [(2, ((γ 2 + 1), .map (b4a c (n.views.take j)))), (7, ((γ2 7), .dead))]) (fun j => j ≤ n.views.length) (fun j => n.views.length - j) (q3q [1, 3, 29, 30] rfl) (a0j [0, 1, 3, 4, 5, 6] rfl) 0 (by omega) [0, 0, 0, 0, 0, 0, 0, _] x6x (HE.map rfl (by rw [List.take_zero]; rfl) (HE.kill rfl HE.nil)) rfl fun j γ2 hi => ?_
 refine dc 3 (fun K K' => aI ?_ ?_)<;>intro o<;>try simp at o
 ·obtain ⟨q, hq⟩ := gE n.views j
  have hjl : (n.views.take j).length = j := by rw [List.length_take]; omega
  refine dv 7 fun K K' => ?_
  refine x2x (id := 7) s5s a6q rfl (dv 9 ?_)
  refine d1q (κ := Int) (enc := fun n => .int .i64 n) (ks := c5j j) (k := (j : Int)) (es' := b4a c (n.views.take j ++ [q])) Tryz.underlying162 (c3j Tryz.underlying3) rfl rfl rfl (fun _ _ _ h => f1c h) rfl (by rw [c5k, hjl]) (.inr ⟨e8t j, by rw [e5u, hjl]; try rfl⟩) ?_
  refine dv 1 ?_
  refine u1u rfl rfl rfl (dv 1 ?_)
  exact ⟨j + 1, ⟨by omega, by omega⟩, [0, 0, 0, 0, 0, 0, 0, _], (Cov.cons' (t := 31) rfl (by rw [x9x (by omega) (by omega)]; rfl) Cov.nil), x6x, (HE.map rfl (by rw [z8z hq]) (HE.kill rfl HE.nil)), x4x, rfl⟩
 obtain rfl : j = n.views.length := by omega
 refine dv 8 ?_
 refine e6y p1p (l := n.known) a0l rfl s4s rfl rfl rfl rfl (by rw [hk3]; rfl) ?_
 refine dv 29 ?_
 exact ⟨[_, _, _, _, _], rfl, rfl, HE.row rfl rfl (HE.row rfl (by rw [List.take_length, List.drop_length, List.map_nil, List.append_nil]) (HE.map rfl (by rw [List.take_length]) (HE.row rfl rfl (HE.box rfl rfl HE.nil))))⟩
end
section
theorem c2e (c : Bool) (n : Nd) (hs : (r7r n).length ≤ 5000000) (hlen : n.lanes.length ≤ 1048576) : Meth Tryz.prog 229 6 [0, 1, 2, 3, 4] [.ptr 4 0 0] [(0, (0, .row 41 3 ((n.lanes).map fun l => q8q l.base))), (1, (0, .row 42 1 ((n.lanes).map fun l => [a7g c l.done]))), (2, (0, .map (b4a c n.views))), (3, (0, .row 3 1 (n.known.map a3i))), (4, (0, .box 164 [pI n.id, pI n.inc, pI n.g, pI n.led, .ref 0 0, s1s c n.kept, q7q c n.outs, .pv (.bool n.up), .ref 1 0, pI n.version, .mp 2 0, .ref 3 0, pI n.round, pI n.low])), (5, (0, .dead))] (.ref 5 0) [(5, (0, .row 56 7 ((r7r n).map y8y)))] := by
 refine s2s p1p (fn := Tryz.f229) (by kernel_rfl) (by kernel_rfl) rfl (O0 := [.ref 5 0]) 6 2 (a0g rfl) (by rfl) (by repeat (first | exact BndH.nil | refine BndH.dead ?_ | refine BndH.box rfl ?_ | refine BndH.row (v6v fun _ => rfl) ?_ | refine BndH.map (a0w _ _) ?_ )) (by repeat (first | exact BndH.nil | refine BndH.row (v6v fun _ => rfl) ?_ )) (by rfl) fun γ => ?_
 show Ex Tryz.prog _ _ [(0, .ptr 4 (γ 4) 0)] [(0, ((γ 0), .row 41 3 ((n.lanes).map fun l => q8q l.base))), (1, ((γ 1), .row 42 1 ((n.lanes).map fun l => [a7g c l.done]))), (2, ((γ 2), .map (b4a c n.views))), (3, ((γ 3), .row 3 1 (n.known.map a3i))), (4, ((γ 4), .box 164 [pI n.id, pI n.inc, pI n.g, pI n.led, .ref 0 (γ 0), s1s c n.kept, q7q c n.outs, .pv (.bool n.up), .ref 1 (γ 1), pI n.version, .mp 2 (γ 2), .ref 3 (γ 3), pI n.round, pI n.low])), (5, ((γ 5), .dead)), (7, (0, .dead)), (6, (0, .dead))] _
 have hkl : n.kept.length ≤ 5000000 := by simp only [r7r, r0r] at hs; omega
 refine dv 8 ?_
 refine rlM [5] [_] (v2v c n.kept (by omega)) rfl rfl rfl ?_
 refine dv 10 fun K K' => ?_
 refine x5x (ι := Nat) (fun i γ1 => [(3, .ref 5 (γ1 5)), (19, pI (i : Int))]) (fun i γ1 => [(5, ((γ1 5), .row 56 7 ((n.kept ++ (n.lanes.take i).flatMap a5n).map y8y))), (6, ((γ1 6), .dead)), (7, ((γ1 7), .dead))]) (fun i => i ≤ n.lanes.length) (fun i => n.lanes.length - i) (q3q [17, 18] rfl) (a0j [0, 1, 2, 3, 4] rfl) 0 (by omega) [0, 0, 0, 0, 0, _, _, _] x6x (HE.row rfl (by simp) (HE.kill rfl (HE.kill rfl HE.nil))) rfl fun i γ1 hi => ?_
 refine dc 3 (fun K K' => aS ?_ ?_)<;>intro o<;>try simp at o
 ·obtain rfl : i = n.lanes.length := by omega
  refine dv 5 ?_
  exact ⟨[γ 0, γ 1, γ 2, γ 3, γ 4, _], rfl, rfl, HE.row rfl (by rw [List.take_length]; rfl) (a0j [0, 1, 2, 3, 4] rfl)⟩
 obtain ⟨p, hp⟩ := gE n.lanes i
 refine dv 4 fun K K' => ?_
 refine y3y (j := i) rfl rfl b8k rfl a6m rfl rfl (z0z hp) ?_
 refine dv 7 ?_
 refine u9u 23 rfl fun hlen2 => ?_
 refine x5x (ι := Nat) (fun j γ2 => [(3, .ref 5 (γ2 5)), (25, pI (j : Int))]) (fun j γ2 => [(5, ((γ2 5), .row 56 7 ((n.kept ++ (n.lanes.take i).flatMap a5n ++ (p.done.take j).flatMap Pa.sends).map y8y))), (6, ((γ2 6), .dead)), (7, ((γ2 7), .dead))]) (fun j => j ≤ p.done.length) (fun j => p.done.length - j) (q3q [17, 18, 19, 23, 24] rfl) (a0j [0, 1, 2, 3, 4] rfl) 0 (by omega) [0, 0, 0, 0, 0, _, _, _] x6x (HE.row rfl (by simp) (HE.kill rfl (HE.kill rfl HE.nil))) rfl fun j γ2 hi => ?_
 refine dc 3 (fun K K' => aS ?_ ?_)<;>intro o<;>try simp at o
 ·obtain rfl : j = p.done.length := by omega
  refine dv 2 ?_
  refine u1u rfl rfl rfl (dv 1 ?_)
  exact ⟨i + 1, ⟨by omega, by omega⟩, [0, 0, 0, 0, 0, _, _, _], (y0y 3 rfl (Cov.cons' (t := 19) rfl (by rw [x9x (by omega) (by omega)]; rfl) Cov.nil)), x6x, (HE.row rfl (by simp only [a2h hp, List.append_assoc, a5n, List.take_length]) (HE.kill rfl (HE.kill rfl HE.nil))), x4x, rfl⟩
 obtain ⟨q, hq⟩ := gE p.done j
 have hsp := c3x hp hq
 refine dv 6 fun K K' => ?_
 refine x2x (id := 6) a4k c0g rfl (dv 5 ?_)
 refine w2w (zs := (n.kept ++ (n.lanes.take i).flatMap a5n ++ (p.done.take j).flatMap Pa.sends ++ q.sends).map y8y) rfl rfl u4u rfl z2z rfl rfl rfl (z6z (fun _ => rfl) _) (a5c _ _ _) (by have hb56 : T56.bytes = 56 := rfl; rw [List.length_map, hb56]; omega) ?_
 refine dv 2 ?_
 refine u1u rfl rfl rfl (dv 1 ?_)
 exact ⟨j + 1, ⟨by omega, by omega⟩, [0, 0, 0, 0, 0, _, _, _], (y0y 3 rfl (Cov.cons' (t := 25) rfl (by rw [x9x (by omega) (by omega)]; rfl) Cov.nil)), (y0y 17 rfl (y0y 18 rfl (y0y 19 rfl (y0y 23 rfl (y0y 24 rfl Cov.nil))))), (HE.row rfl (by simp only [a2h hq, List.append_assoc]) (HE.kill rfl (HE.kill rfl HE.nil))), (w4w 0 rfl (w4w 1 rfl (w4w 2 rfl (w4w 3 rfl (w4w 4 rfl HE.nil))))), rfl⟩
theorem b9r (c : Bool) (n : Nd) (proc : Int) (e : Ev) : Meth Tryz.prog 231 7 [0, 1, 2, 3, 4, 5, 6] [.agg (y8y e), .ptr 5 0 0, .ptr 6 0 0] [(0, (0, .row 41 3 ((n.lanes).map fun l => q8q l.base))), (1, (0, .row 42 1 ((n.lanes).map fun l => [a7g c l.done]))), (2, (0, .map (b4a c n.views))), (3, (0, .row 3 1 (n.known.map a3i))), (4, (0, .box 164 [pI n.id, pI n.inc, pI n.g, pI n.led, .ref 0 0, s1s c n.kept, q7q c n.outs, .pv (.bool n.up), .ref 1 0, pI n.version, .mp 2 0, .ref 3 0, pI n.round, pI n.low])), (5, (0, .box 3 [pI proc])), (6, (0, .box 148 [.ptr 4 0 0]))] (.pv (.bool (a9j proc n.g e))) [] := by
 refine s2s p1p (fn := Tryz.f231) (by kernel_rfl) (by kernel_rfl) rfl (O0 := [.pv (.bool (a9j proc n.g e))]) 7 1 (a0g rfl) (by rfl) (by repeat (first | exact BndH.nil | refine BndH.box rfl ?_ | refine BndH.row (v6v fun _ => rfl) ?_ | refine BndH.map (a0w _ _) ?_ )) (by repeat (exact BndH.nil )) (by rfl) fun γ => ?_
 show Ex Tryz.prog _ _ [(0, .agg (y8y e)), (1, .ptr 5 (γ 5) 0), (2, .ptr 6 (γ 6) 0)] [(0, ((γ 0), .row 41 3 ((n.lanes).map fun l => q8q l.base))), (1, ((γ 1), .row 42 1 ((n.lanes).map fun l => [a7g c l.done]))), (2, ((γ 2), .map (b4a c n.views))), (3, ((γ 3), .row 3 1 (n.known.map a3i))), (4, ((γ 4), .box 164 [pI n.id, pI n.inc, pI n.g, pI n.led, .ref 0 (γ 0), s1s c n.kept, q7q c n.outs, .pv (.bool n.up), .ref 1 (γ 1), pI n.version, .mp 2 (γ 2), .ref 3 (γ 3), pI n.round, pI n.low])), (5, ((γ 5), .box 3 [pI proc])), (6, ((γ 6), .box 148 [.ptr 4 (γ 4) 0])), (7, (0, .dead))] _
 refine dv 1 ?_
 refine x8x (id := 7) rfl rfl rfl (dc 7 (aS ?_ ?_))<;>intro o<;>try simp at o
 ·refine dv 10 ?_
  exact ⟨[γ 0, γ 1, γ 2, γ 3, γ 4, γ 5, γ 6], rfl, congrArg (fun b : Bool => some [AV.pv (.bool b)]) ((decide_eq_false (by omega)).symm), x4x⟩
 refine dv 11 ?_
 exact ⟨[γ 0, γ 1, γ 2, γ 3, γ 4, γ 5, γ 6], rfl, congrArg (fun b : Bool => some [AV.pv (.bool b)]) (by exact decide_eq_decide.2 (by omega)), (w4w 0 rfl (w4w 1 rfl (w4w 2 rfl (w4w 3 rfl (w4w 4 rfl (w4w 5 rfl (w4w 6 rfl HE.nil)))))))⟩
theorem a9t (c : Bool) (n : Nd) (proc : Int) (l : List Ev) (hl : l.length ≤ 10000000) : Meth Tryz.prog 230 7 [0, 1, 2, 3, 4, 5, 6] [s1s true l, .fn (.func 231) [] [.ptr 5 0 0, .ptr 6 0 0]] [(0, (0, .row 41 3 ((n.lanes).map fun l => q8q l.base))), (1, (0, .row 42 1 ((n.lanes).map fun l => [a7g c l.done]))), (2, (0, .map (b4a c n.views))), (3, (0, .row 3 1 (n.known.map a3i))), (4, (0, .box 164 [pI n.id, pI n.inc, pI n.g, pI n.led, .ref 0 0, s1s c n.kept, q7q c n.outs, .pv (.bool n.up), .ref 1 0, pI n.version, .mp 2 0, .ref 3 0, pI n.round, pI n.low])), (5, (0, .box 3 [pI proc])), (6, (0, .box 148 [.ptr 4 0 0]))] (s1s true (l.filter (a9j proc n.g))) [] := by
 refine s2s p1p (fn := Tryz.f230) (by kernel_rfl) (by kernel_rfl) rfl (O0 := [s1s true (l.filter (a9j proc n.g))]) 7 4 (a0g rfl) (by rfl) (by repeat (first | exact BndH.nil | refine BndH.box rfl ?_ | refine BndH.row (v6v fun _ => rfl) ?_ | refine BndH.map (a0w _ _) ?_ )) (by repeat (exact BndH.nil )) (by rfl) fun γ => ?_
 show Ex Tryz.prog _ _ [(0, s1s true l), (1, .fn (.func 231) [] [.ptr 5 (γ 5) 0, .ptr 6 (γ 6) 0])] [(0, ((γ 0), .row 41 3 ((n.lanes).map fun l => q8q l.base))), (1, ((γ 1), .row 42 1 ((n.lanes).map fun l => [a7g c l.done]))), (2, ((γ 2), .map (b4a c n.views))), (3, ((γ 3), .row 3 1 (n.known.map a3i))), (4, ((γ 4), .box 164 [pI n.id, pI n.inc, pI n.g, pI n.led, .ref 0 (γ 0), s1s c n.kept, q7q c n.outs, .pv (.bool n.up), .ref 1 (γ 1), pI n.version, .mp 2 (γ 2), .ref 3 (γ 3), pI n.round, pI n.low])), (5, ((γ 5), .box 3 [pI proc])), (6, ((γ 6), .box 148 [.ptr 4 (γ 4) 0])), (10, (0, .dead)), (9, (0, .dead)), (8, (0, .dead)), (7, (0, .dead))] _
 refine dv 10 fun K K' => ?_
 refine a1m 5 10 56 7 rfl rfl ?_
 refine x5x (ι := Nat) (fun i γ1 => [(5, .ref 10 (γ1 10)), (10, pI (i : Int))]) (fun i γ1 => [(10, ((γ1 10), .row 56 7 (((l.take i).filter (a9j proc n.g)).map y8y))), (7, ((γ1 7), .dead)), (8, ((γ1 8), .dead)), (9, ((γ1 9), .dead))]) (fun i => i ≤ l.length) (fun i => l.length - i) (q3q [1, 8, 9] rfl) (a0j [0, 1, 2, 3, 4, 5, 6] rfl) 0 (by omega) [0, 0, 0, 0, 0, 0, 0, _, _, _, _] x6x (HE.row rfl (by rw [List.take_zero]; rfl) (HE.kill rfl (HE.kill rfl (HE.kill rfl HE.nil)))) rfl fun i γ1 hi => ?_
 refine dc 3 (fun K K' => aS ?_ ?_)<;>intro o<;>try simp at o
 ·obtain rfl : i = l.length := by omega
  rw [List.take_length]
  refine dv 1 ?_
  refine w5w 5 rfl rfl (fun _ => rfl) ?_
  refine dv 4 ?_
  exact ⟨[γ 0, γ 1, γ 2, γ 3, γ 4, γ 5, γ 6], rfl, rfl, x4x⟩
 obtain ⟨p, hp⟩ := gE l i
 have hfl : ((l.take i).filter (a9j proc n.g)).length ≤ 10000000 := Nat.le_trans (List.length_filter_le _ _) (by rw [List.length_take]; omega)
 refine dv 6 fun K K' => ?_
 refine x2x (id := 7) z2z a6n rfl (dv 4 ?_)
 refine rlM [0, 1, 2, 3, 4, 5, 6] [_, _, _, _, _, _, _] (b9r c n proc p) rfl rfl rfl ?_
 refine dc 0 (aS ?_ ?_)<;>intro hc5<;>try simp at hc5
 ·have hw : ¬ a9j proc n.g p = true := by rw [hc5]; decide
  refine dv 2 ?_
  refine u1u rfl rfl rfl (dv 1 ?_)
  exact ⟨i + 1, ⟨by omega, by omega⟩, [0, 0, 0, 0, 0, 0, 0, _, _, _, _], (y0y 5 rfl (Cov.cons' (t := 10) rfl (by rw [x9x (by omega) (by omega)]; rfl) Cov.nil)), x6x, (HE.row rfl (by rw [p7p hp]; rw [if_neg hw, List.append_nil]) (HE.kill rfl (HE.kill rfl (HE.kill rfl HE.nil)))), x4x, rfl⟩
 have hw : a9j proc n.g p = true := hc5
 refine dv 3 ?_
 refine y2y (id := 8) u4u rfl z2z rfl rfl rfl rfl rfl rfl ?_
 refine y7y (zs := ((l.take i).filter (a9j proc n.g) ++ [p]).map y8y) rfl rfl u4u rfl z2z rfl rfl rfl rfl (by rfl) (z7z _ _ _) (by (simp only [s3s, r0r, r5r, r8r, a0p, a2m, T56]; omega)) ?_
 refine dv 2 ?_
 refine u1u rfl rfl rfl (dv 1 ?_)
 exact ⟨i + 1, ⟨by omega, by omega⟩, [0, 0, 0, 0, 0, 0, 0, _, _, _, _], (y0y 5 rfl (Cov.cons' (t := 10) rfl (by rw [x9x (by omega) (by omega)]; rfl) Cov.nil)), (y0y 1 rfl (y0y 8 rfl (y0y 9 rfl Cov.nil))), (HE.row rfl (by rw [p7p hp]; rw [if_pos hw]) (HE.kill rfl (HE.kill rfl (HE.kill rfl HE.nil)))), (w4w 0 rfl (w4w 1 rfl (w4w 2 rfl (w4w 3 rfl (w4w 4 rfl (w4w 5 rfl (w4w 6 rfl HE.nil))))))), rfl⟩
theorem b3u (c : Bool) (n : Nd) (proc : Int) (hs : (r7r n).length + (a0r n 3).length ≤ 5000000) (hlen : n.lanes.length ≤ 1048576) (hv3 : n.views.length = 3) : Meth Tryz.prog 126 6 [0, 1, 2, 3, 4] [.ptr 4 0 0, .pv (.int .i64 proc)] [(0, (0, .row 41 3 ((n.lanes).map fun l => q8q l.base))), (1, (0, .row 42 1 ((n.lanes).map fun l => [a7g c l.done]))), (2, (0, .map (b4a c n.views))), (3, (0, .row 3 1 (n.known.map a3i))), (4, (0, .box 164 [pI n.id, pI n.inc, pI n.g, pI n.led, .ref 0 0, s1s c n.kept, q7q c n.outs, .pv (.bool n.up), .ref 1 0, pI n.version, .mp 2 0, .ref 3 0, pI n.round, pI n.low])), (5, (0, .dead))] (.ref 5 0) [(5, (0, .row 56 7 ((a0y n proc).map y8y)))] := by
 refine s2s p1p (fn := Tryz.f126) (by kernel_rfl) (by kernel_rfl) rfl (O0 := [.ref 5 0]) 6 4 (a0g rfl) (by rfl) (by repeat (first | exact BndH.nil | refine BndH.dead ?_ | refine BndH.box rfl ?_ | refine BndH.row (v6v fun _ => rfl) ?_ | refine BndH.map (a0w _ _) ?_ )) (by repeat (first | exact BndH.nil | refine BndH.row (v6v fun _ => rfl) ?_ )) (by rfl) fun γ => ?_
 show Ex Tryz.prog _ _ [(0, .ptr 4 (γ 4) 0), (1, .pv (.int .i64 proc))] [(0, ((γ 0), .row 41 3 ((n.lanes).map fun l => q8q l.base))), (1, ((γ 1), .row 42 1 ((n.lanes).map fun l => [a7g c l.done]))), (2, ((γ 2), .map (b4a c n.views))), (3, ((γ 3), .row 3 1 (n.known.map a3i))), (4, ((γ 4), .box 164 [pI n.id, pI n.inc, pI n.g, pI n.led, .ref 0 (γ 0), s1s c n.kept, q7q c n.outs, .pv (.bool n.up), .ref 1 (γ 1), pI n.version, .mp 2 (γ 2), .ref 3 (γ 3), pI n.round, pI n.low])), (5, ((γ 5), .dead)), (9, (0, .dead)), (8, (0, .dead)), (7, (0, .dead)), (6, (0, .dead))] _
 refine dv 1 ?_
 refine c8n (id := 6) rfl rfl rfl rfl (c8n (id := 7) rfl rfl rfl rfl (dv 3 ?_))
 refine rlM [0, 1, 2, 3, 4, 9] [_, _, _, _, _, _] (c2e c n (by omega) hlen) rfl rfl rfl ?_
 refine dv 5 fun K K' => ?_
 refine x5x (ι := Nat) (fun i γ1 => [(5, .ref 9 (γ1 9)), (9, pI (i : Int))]) (fun i γ1 => [(9, ((γ1 9), .row 56 7 ((r7r n ++ a0r n i).map y8y))), (8, ((γ1 8), .dead))]) (fun i => i ≤ 3) (fun i => 3 - i) (q3q [2, 3] rfl) (a0j [0, 1, 2, 3, 4, 5, 6, 7] rfl) 0 (by omega) [0, 0, 0, 0, 0, 0, 0, 0, _, _] x6x (HE.row rfl (by simp [a0r]) (HE.kill rfl HE.nil)) rfl fun i γ1 hi => ?_
 refine dc 3 (fun K K' => aS ?_ ?_)<;>intro o<;>try simp at o
 ·obtain rfl : i = 3 := by omega
  refine dv 1 ?_
  refine w5w 5 rfl rfl (fun _ => rfl) ?_
  refine dv 2 ?_
  refine b7g rfl rfl ?_
  refine rlM [0, 1, 2, 3, 4, 7, 6] [_, _, _, _, _, _, _] (a9t c n proc _ (by rw [List.length_append]; omega)) rfl rfl rfl ?_
  refine rlM [5] [_] (a3l true _ (Nat.le_trans (List.length_filter_le _ _) (by rw [List.length_append]; omega))) rfl rfl rfl ?_
  refine dv 2 ?_
  exact ⟨[γ 0, γ 1, γ 2, γ 3, γ 4, _], rfl, rfl, x4x⟩
 obtain ⟨v, hv⟩ := gE n.views i
 have hg : n.views.getD i vi0 = v := by rw [List.getD_eq_getElem?_getD, hv]; rfl
 have hol := d2e n (i := i + 1) (by omega)
 rw [a2z] at hol
 refine dc 14 (fun K K' => aS ?_ ?_)<;>intro hc5<;>try simp at hc5
 ·have hve : b4m n i = [] := by rw [b4m, if_pos hc5]
  refine dv 2 ?_
  refine u1u rfl rfl rfl (dv 1 ?_)
  exact ⟨i + 1, ⟨by omega, by omega⟩, [0, 0, 0, 0, 0, 0, 0, 0, _, _], (y0y 5 rfl (Cov.cons' (t := 9) rfl (by rw [x9x (by omega) (by omega)]; rfl) Cov.nil)), x6x, (HE.row rfl (by rw [a2z, hve]; simp) (HE.kill rfl HE.nil)), x4x, rfl⟩
 have hve : b4m n i = v.events := by rw [b4m, if_neg hc5, hg]
 rw [hve] at hol
 simp only [r0r] at hol
 refine dv 7 ?_
 refine a5w (κ := Int) (enc := fun n => .int .i64 n) (ks := c5j n.views.length) (k := (i : Int)) (out := .agg (a2l c v)) p1p Tryz.underlying162 (c3j Tryz.underlying3) rfl rfl (fun _ _ _ h => f1c h) rfl (c5k _ _) (d3i hv) ?_
 refine dv 1 ?_
 refine w2w (zs := (r7r n ++ a0r n i ++ v.events).map y8y) rfl rfl u4u rfl z2z rfl rfl rfl (z6z (fun _ => rfl) _) (a5c _ _ _) (by have hb56 : T56.bytes = 56 := rfl; rw [List.length_map, hb56]; simp only [r0r]; omega) ?_
 refine dv 2 ?_
 refine u1u rfl rfl rfl (dv 1 ?_)
 exact ⟨i + 1, ⟨by omega, by omega⟩, [0, 0, 0, 0, 0, 0, 0, 0, _, _], (y0y 5 rfl (Cov.cons' (t := 9) rfl (by rw [x9x (by omega) (by omega)]; rfl) Cov.nil)), x6x, (HE.row rfl (by rw [a2z, hve]; simp) (HE.kill rfl HE.nil)), x4x, rfl⟩
end
section
theorem c2f (c : Bool) (p : Pa) (ps : List Pa) : Meth Tryz.prog 236 1 [0] [.ptr 0 0 0, .agg (a2r c p)] [(0, (0, .chn 256 259 ((ps).map (a2r c))))] (.tup []) [(0, (0, .chn 256 259 ((ps ++ [p]).map (a2r c))))] := by
 refine mX Tryz.f236 [] 1 2 fun γ => ?_
 refine f1h (e9n 0 rfl fun b0 bs hbl hbn => ?_)
 have hbl2 : bs.length = ps.length := by rw [hbl, List.length_map]
 refine exR (x8x (id := 1) rfl rfl rfl (exR (d1j rfl a4k rfl rfl rfl (rlB d5y f4o ?_))))
 refine x8x (id := 2) rfl rfl rfl (q9q rfl (a5t fun K1 hK1 => ?_))
 refine e2d 4 0 2 rfl rfl (by intro h; cases h) rfl rfl rfl fun bn hbn2 => ?_
 refine exA 3 rfl rfl ?_
 refine c9b p1p (out := .pv (b5w bs.getLast?)) rfl b4f rfl rfl ?_
 refine a9b rfl rfl (by intro a c h h2; cases h; cases h2; rfl) (.inl rfl) (e1u (by kernel_rfl) _ _ _) ?_
 refine a1e rfl ?_ ?_<;>intro hc2<;>try simp at hc2
 ·obtain rfl : bs = [] := by cases bs with | nil => rfl | cons b r => (simp [List.getLast?_cons, a2c] at hc2)
  obtain rfl : ps = [] := List.eq_nil_of_length_eq_zero (by simpa using hbl2.symm)
  refine exG (a1x 4 rfl rfl (c3o p1p rfl rfl b4f rfl rfl rfl rfl rfl (hK1 _ _ (exG (a1x 4 rfl rfl (c3o p1p rfl rfl b4f rfl rfl rfl rfl rfl (Conv.step (c8z 0 b0 256 259 ([bn]) ([a2r c p]) rfl rfl rfl) (Conv.done ?_))))))))
  exact ⟨.inl rfl, [γ 0], rfl, rfl, x4x⟩
 obtain ⟨bs0, bl, rfl⟩ := e2b (l := bs) hc2
 obtain ⟨ps0, pl, rfl⟩ := e2b (l := ps) (by rintro rfl; simp at hbl2)
 refine exG (a1x 3 rfl rfl ?_)
 refine c9b p1p (out := PQ bl 0) rfl b4f rfl (by rw [List.getLast?_concat]; rfl) ?_
 refine q0q rfl (d4i rfl (a8k p1p rfl d5y rfl rfl b4f rfl ?_))
 refine e2f p1p (bty := 259) ((b0, 256, [.pv (b5w (bs0 ++ [bl]).head?), .pv (b5w (bs0 ++ [bl]).getLast?)]) :: c7d 259 (some bl) bs0 (ps0.map (a2r c))) [(bn, 259, a2r c p ++ [.pv (.pointer none)])] (cs := a2r c pl ++ [.pv (.pointer none)]) 0 rfl rfl b4f rfl rfl rfl (by rw [chB, List.map_append, List.map_cons, List.map_nil, d1w (by rw [List.length_map]; simpa using hbl2)]; simp [b5w]) (a0g rfl) rfl ?_
 refine hK1 _ _ (exG (a1x 4 rfl rfl (c3o p1p rfl rfl b4f rfl rfl rfl rfl rfl ?_)))
 refine Conv.step (c8z 0 b0 256 259 (bs0 ++ [bl] ++ [bn]) (((ps0 ++ [pl]) ++ [p]).map (a2r c)) rfl (by simp at hbl2 ⊢; exact hbl2) (by rw [List.map_append, List.map_cons (l := []), List.map_nil, e7a (by rw [List.length_map]; exact hbl2), List.map_append, List.map_cons, List.map_nil, d1w (by rw [List.length_map]; simpa using hbl2)]; cases bs0 <;> simp [b5w] <;> rfl)) (Conv.done ?_)
 exact ⟨.inl rfl, [γ 0], rfl, rfl, x4x⟩
theorem b6o (c : Bool) (l : List Pa) : Meth Tryz.prog 131 1 [] [a7g c l] [(0, (0, .dead))] (.ptr 0 0 0) [(0, (0, .chn 256 259 ((l).map (a2r c))))] := by
 refine mX Tryz.f131 [.ptr 0 0 0] 1 1 fun γ => ?_
 refine u9u 0 rfl fun hlen => ?_
 refine exR (q9q rfl (exR (rlB f4k f4n ?_)))
 refine x8x (id := 0) rfl rfl rfl (q9q rfl (a5t fun K1 hK1 => ?_))
 refine exR (q0q rfl (c8o rfl a6m rfl (q0q rfl (b0h (e2c 0 259 rfl ?_)))))
 refine x5x (ι := Nat) (fun i γ1 => [(10, pI (i : Int))]) (fun i γ1 => [(0, ((γ 0 + 1), .chn 256 259 ((l.take i).map (a2r c)))), (1, ((γ1 1), .dead))]) (fun i => i ≤ l.length) (fun i => l.length - i) (q3q [3, 8, 9] rfl) HE.nil 0 (by omega) [0, _] x6x (HE.chn rfl (by rw [List.take_zero]; rfl) (HE.kill rfl HE.nil)) rfl fun i γ1 hi => ?_
 refine exR (b4i rfl rfl rfl (a5t fun K2 hK2 => ?_))
 refine d7y rfl ?_ ?_<;>intro o<;>try simp at o
 ·obtain rfl : i = l.length := by omega
  refine b0q (hK1 _ _ (exA 2 rfl rfl (b3m ?_)))
  rw [List.take_length]
  exact ⟨.inr rfl, [_], rfl, rfl, x4x⟩
 obtain ⟨p, hp⟩ := gE l i
 refine b6w (hK2 _ _ (a5t fun K4 hK4 => ?_))
 refine b0h (exR (a9c rfl rfl a6m rfl a4k rfl (by assumption) ?_))
 refine a7r rfl a4k rfl rfl (x2x (id := 1) a4k c0g rfl (c3g rfl rfl a4k rfl rfl rfl rfl (exG (a1x 2 rfl rfl ?_))))
 refine rlM [0] [_] (c2f c p (l.take i)) rfl rfl rfl ?_
 refine hK4 _ _ (exG (x7x (b := 1) rfl rfl (by omega) (q0q rfl ?_)))
 exact ⟨i + 1, ⟨by omega, by omega⟩, [0, _], x6x, x6x, (HE.chn rfl (by rw [z8z hp]) (HE.kill rfl HE.nil)), x4x, rfl⟩
theorem a7z (c c' : Bool) (ps : List Pa) (s : List Ev) : Meth Tryz.prog 132 1 [0] [.ptr 0 0 0, s1s c' s] [(0, (0, .chn 256 259 ((ps).map (a2r c))))] (.pv (.int .i64 (same ps s : Int))) [] := by
 refine mX Tryz.f132 [.pv (.int .i64 (same ps s : Int))] 1 0 fun γ => ?_
 refine u9u 1 rfl fun hlen => ?_
 refine e9n 0 rfl fun b0 bs hbl hbn => ?_
 have hbl2 : bs.length = ps.length := by rw [hbl, List.length_map]
 refine exR (q9q rfl (exR (q9q rfl (a5t fun K1 hK1 => ?_))))
 refine exA 3 rfl rfl ?_
 refine c9b p1p (out := .pv (b5w bs.head?)) rfl b4f rfl rfl ?_
 refine q9q rfl (b0h ?_)
 refine x5x (ι := Nat) (fun i γ1 => [(5, pI (i : Int)), (6, .pv (b5w bs[i]?))]) (fun i γ1 => []) (fun i => i ≤ ps.length ∧ i ≤ s.length ∧ same ps s = i + same (ps.drop i) (s.drop i)) (fun i => ps.length - i) (y0y 1 rfl Cov.nil) (w4w 0 rfl HE.nil) 0 ⟨by omega, by omega, by rw [List.drop_zero, List.drop_zero, Nat.zero_add]⟩ [] (y0y 5 rfl (Cov.cons' (t := 6) rfl ((by rw [List.head?_eq_getElem?])) Cov.nil)) x4x rfl fun i γ1 hi => ?_
 obtain ⟨h1, h2, h3⟩ := hi
 refine a5t fun K2 hK2 => ?_
 refine exD (q0q rfl (a9b rfl rfl (by intro a c h h2; cases h; cases h2; rfl) (.inr rfl) (e1u (by kernel_rfl) _ _ _) ?_))
 refine q0q rfl (f6h rfl rfl ?_ ?_)<;>intro o<;>try simp at o
 ·have g1 : ps.length ≤ i := by omega
  refine a1x 16 rfl rfl ⟨by kernel_rfl, a1e rfl (fun hc8 => ?_) (fun hc8 => ?_)⟩
  ·simp at hc8
  try simp at hc8
  try have heq : ¬ p.ev = e := by simpa [a2c] using hc8
  refine b0q (hK1 _ _ (exA 2 rfl rfl (c9a 0 b0 256 259 (bs) (ps.map (a2r c)) rfl hbl rfl ?_)))
  refine b3m ?_
  refine ⟨.inr rfl, [γ 0], rfl, ?_, HE.same rfl HE.nil⟩
  exact congrArg (fun v : Nat => some [AV.pv (.int .i64 (v : Int))]) (h3.trans (by rw [d2h g1]; rfl)).symm
 obtain ⟨b, hb⟩ := gE bs i
 rw [hb]
 have g1 : i < ps.length := by have := (List.getElem?_eq_some_iff.1 hb).1; omega
 obtain ⟨p, hp⟩ := gE ps i
 refine a1x 2 rfl rfl (c1u rfl rfl (c8o rfl u4u rfl (a1x 3 rfl rfl (f6h rfl rfl ?_ ?_))))<;>intro o<;>try simp at o
 ·have g2 : s.length ≤ i := by omega
  refine a1x 10 rfl rfl ⟨by kernel_rfl, a1e rfl (fun hc7 => ?_) (fun hc7 => ?_)⟩
  ·simp at hc7
  try simp at hc7
  try have heq : ¬ p.ev = e := by simpa [a2c] using hc7
  refine b0q (hK1 _ _ (exA 2 rfl rfl (c9a 0 b0 256 259 (bs) (ps.map (a2r c)) rfl hbl rfl ?_)))
  refine b3m ?_
  refine ⟨.inr rfl, [γ 0], rfl, ?_, HE.same rfl HE.nil⟩
  exact congrArg (fun v : Nat => some [AV.pv (.int .i64 (v : Int))]) (h3.trans (by rw [d2i g2]; rfl)).symm
 have g2 : i < s.length := by omega
 obtain ⟨e, he⟩ := gE s i
 refine q0q rfl (c1u rfl rfl (d4i rfl (c1u rfl rfl (a8k p1p rfl d5y rfl rfl a4k rfl (c1u rfl rfl (a8k p1p rfl a4k rfl rfl z2z rfl (c1u rfl rfl ?_)))))))
 refine d6k p1p (out := .agg (y8y p.ev)) 0 rfl z2z rfl (e2a hbl hb (c9x hp)) rfl ?_
 refine a1x 2 rfl rfl (c1u rfl rfl (a9c rfl rfl u4u rfl z2z rfl he (c1u rfl rfl ?_)))
 refine u8u (out := .agg (y8y e)) rfl z2z rfl ?_
 refine c1u rfl rfl (a9b rfl rfl (by intro a c h; cases h) (.inl rfl) (e9w _ _ _ _) ?_)
 refine d6b rfl rfl ⟨by kernel_rfl, d7y rfl ?_ ?_⟩<;>intro hc5<;>try simp at hc5
 ·try have heq : ¬ p.ev = e := by simpa [a2c] using hc5
  refine b0q (hK1 _ _ (exA 2 rfl rfl (c9a 0 b0 256 259 (bs) (ps.map (a2r c)) rfl hbl rfl ?_)))
  refine b3m ?_
  refine ⟨.inr rfl, [γ 0], rfl, ?_, HE.same rfl HE.nil⟩
  exact congrArg (fun v : Nat => some [AV.pv (.int .i64 (v : Int))]) (h3.trans (by rw [d2g hp he heq]; rfl)).symm
 try have heq : p.ev = e := by simpa [a2c] using hc5
 refine b6w (hK2 _ _ (a5t fun K6 hK6 => ?_))
 refine b0h (exG (q0q rfl (x7x (b := 1) rfl rfl (by omega) (q9q rfl (hK6 _ _ (exG (q0q rfl (d4i rfl (a8k p1p rfl d5y rfl rfl b4f rfl ?_)))))))))
 refine d6k p1p (out := .pv (b5w bs[i + 1]?)) 0 rfl b4f rfl (e2a hbl hb (c9x hp)) rfl ?_
 refine q9q rfl ?_
 exact ⟨i + 1, ⟨⟨by omega, by omega, by rw [h3, d2f hp he heq]; omega⟩, by omega⟩, [], x6x, x6x, x4x, x4x, rfl⟩
end
section
theorem a8r (c : Bool) (n : Nd) : a0t Tryz.prog 38 [.agg (u2u c n)] (.pv (.bool (kb (y4y n)))) := by
 refine pX Tryz.f38 [.pv (.bool (kb (y4y n)))] 8 ?_
 have hpl := a6b n.id 4
 refine dv 1 ?_
 refine x8x (id := 0) rfl rfl rfl (dv 4 fun K K' => ?_)
 refine x0x rfl rfl rfl (c6o ..) (dc 1 (aI ?_ ?_))<;>intro hc2<;>try simp at hc2
 ·try have hX : ¬ a0q n := a1f (by simpa using hc2)
  refine dv 3 ?_
  refine x3x rfl ?_ rfl
  exact congrArg (fun b : Bool => [AV.pv (.bool b)]) (a5o (fun h => hX h.1))
 have fS : a0q n := a1c.1 (by simpa using hc2)
 have fB := v9v fS
 have fL := fS.2.2.2.2.1
 have fV := fS.2.2.2.2.2.1
 refine dv 3 ?_
 refine rlM [1, 2, 3, 4, 5] [_, _, _, _, _] (b3l c n (by omega) (by omega) fS.2.2.2.2.2.2.1) rfl rfl rfl ?_
 refine dv 5 fun K K' => ?_
 refine x0x rfl rfl rfl (a7i ..) (dv 3 ?_)
 refine x5x (ι := Nat) (fun j γ1 => [(16, pI (j : Int))]) (fun j γ1 => [(6, ((γ1 6), .dead)), (7, ((γ1 7), .dead))]) (fun j => j ≤ (q6q n.id 4).length ∧ d0v n.lanes (fun j l => ∀ p, (q6q n.id 4)[j]? = some p → l.done.length ≤ same l.done (a0y n p) ∧ (a0y n p).length ≤ 100) j) (fun j => (q6q n.id 4).length - j) (q3q [3, 14, 15] rfl) (a0j [0, 1, 2, 3, 4, 5] rfl) 0 ⟨by omega, a1u⟩ [0, 0, 0, 0, 0, 0, _, _] x6x x4x rfl fun j γ1 hi => ?_
 obtain ⟨d1, d2⟩ := hi
 refine dc 3 (fun K K' => aS ?_ ?_)<;>intro o<;>try simp at o
 ·have fC := fun (i : Nat) p l (a : (q6q n.id 4)[i]? = some p) (b : n.lanes[i]? = some l) => a3t d2 (by omega) i l b p a
  refine dv 4 ?_
  refine x3x rfl ?_ rfl
  exact congrArg (fun b : Bool => [AV.pv (.bool b)]) (e2x ⟨fS, fC⟩)
 obtain ⟨l, hl⟩ := gE n.lanes j
 obtain ⟨p, hp⟩ := gE (q6q n.id 4) j
 obtain ⟨hdl, _⟩ := a1i (fS.2.2.2.2.2.2.2.1 j l hl).2
 refine dv 12 fun K K' => ?_
 refine rlM [1, 2, 3, 4, 5, 6] [_, _, _, _, _, _] (b3u c n p (a8y fS) (by omega) fS.2.2.2.2.2.1) rfl rfl rfl ?_
 refine dv 1 ?_
 refine w5w 6 rfl rfl (fun _ => rfl) ?_
 refine dc 5 (aS ?_ ?_)<;>intro o<;>try simp at o
 ·refine dv 23 ?_
  refine x3x rfl ?_ rfl
  exact congrArg (fun b : Bool => [AV.pv (.bool b)]) (a5o (fun h => by have := h.2 _ _ _ hp hl; omega))
 refine dv 5 ?_
 refine y3y (j := j) rfl rfl b8k rfl a6m rfl rfl (z0z hl) ?_
 refine dv 1 ?_
 refine rlM [7] [_] (b6o c l.done) rfl rfl rfl ?_
 refine dv 1 ?_
 refine rlM [7] [_] (a7z c true l.done (a0y n p)) rfl rfl rfl ?_
 refine dv 5 ?_
 refine y3y (j := j) rfl rfl b8k rfl a6m rfl rfl (z0z hl) ?_
 refine dc 4 (aS ?_ ?_)<;>intro o<;>try simp at o
 ·refine dv 2 ?_
  refine x7x (b := 1) rfl rfl (by omega) (dv 1 ?_)
  exact ⟨j + 1, ⟨⟨by omega, a0i d2 hl (fun p2 hp2 => by rw [hp] at hp2; cases hp2; omega)⟩, by omega⟩, [0, 0, 0, 0, 0, 0, _, _], x6x, x6x, x4x, x4x, rfl⟩
 refine dv 3 ?_
 refine x3x rfl ?_ rfl
 exact congrArg (fun b : Bool => [AV.pv (.bool b)]) (a5o (fun h => by have := h.2 _ _ _ hp hl; omega))
end
section
theorem c5s (c : Bool) (p : Pa) (hs : p.sends.length ≤ 1048576) (ho : p.outs.length ≤ 1048576) : Meth Tryz.prog 222 2 [] [.agg (a2r c p)] [(0, (0, .dead)), (1, (0, .dead))] (.agg [pI p.ev.time, pI p.ev.to, pI p.ev.from', pI p.ev.count, pI p.ev.n, pI p.ev.kind, pI p.ev.arg, pI p.after.x, pI p.after.y, pI p.after.count, .ref 0 0, .ref 1 0]) [(0, (0, .row 56 7 (p.sends.map y8y))), (1, (0, .row 141 5 (p.outs.map w3w)))] := by
 refine mX Tryz.f222 [.agg [pI p.ev.time, pI p.ev.to, pI p.ev.from', pI p.ev.count, pI p.ev.n, pI p.ev.kind, pI p.ev.arg, pI p.after.x, pI p.after.y, pI p.after.count, .ref 0 0, .ref 1 0]] 2 2 fun γ => ?_
 refine dv 1 ?_
 refine x8x (id := 2) rfl rfl rfl (x2x (id := 3) a4k c0g rfl (dv 3 ?_))
 refine rlM [0] [_] (v2v c p.sends (by omega)) rfl rfl rfl ?_
 refine dv 5 ?_
 refine rlM [1] [_] (a0m c p.outs (by omega)) rfl rfl rfl ?_
 refine dv 6 ?_
 exact ⟨[_, _], rfl, rfl, x4x⟩
theorem b1d (c : Bool) (l : List Pa) (hl : f1p l ≤ 1048576) : Meth Tryz.prog 221 1 [] [a7g c l, .fn (.func 222) [] []] [(0, (0, .dead))] (.ref 0 0) [(0, (0, .row 58 12 (l.map b6d)))] := by
 refine mX Tryz.f221 [.ref 0 0] 1 3 fun γ => ?_
 have hc : f1p l = l.length + szs cPa l := rfl
 refine u9u 0 rfl fun hlen => ?_
 refine dc 7 (fun K K' => aI ?_ ?_)<;>intro hc2<;>try simp at hc2
 ·obtain rfl : l = [] := List.eq_nil_of_length_eq_zero (by simpa using hc2)
  refine dv 2 ?_
  refine a1m 4 0 58 12 rfl rfl (dv 1 ?_)
  exact ⟨[_], rfl, rfl, x4x⟩
 refine dv 4 ?_
 refine c3h (id := 0) a6m rfl a4k c0g rfl rfl rfl rfl (by (simp only [s3s, r0r, r5r, r8r, a0p, a2m, T58]; omega)) rfl ?_
 refine dv 7 fun K K' => ?_
 refine x5x (ι := Nat) (fun i γ1 => [(16, pI (i : Int))]) (fun i γ1 => [(2, ((γ1 2), .dead)), (3, ((γ1 3), .dead)), (0, ((γ 0 + 1), .row 58 12 ((l.take i).map b6d ++ (l.drop i).map fun _ => [pI 0, pI 0, pI 0, pI 0, pI 0, pI 0, pI 0, pI 0, pI 0, pI 0, .pv (.slice none 0 0), .pv (.slice none 0 0)]))), (1, ((γ1 1), .dead))]) (fun i => i ≤ l.length) (fun i => l.length - i) (q3q [1, 5, 14, 15] rfl) HE.nil 0 (by omega) [0, _, _, _] x6x (HE.kill rfl (HE.kill rfl (HE.row rfl (by rw [List.take_zero, List.drop_zero, List.map_const']; rfl) (HE.kill rfl HE.nil)))) rfl fun i γ1 hi => ?_
 refine dc 3 (fun K K' => aS ?_ ?_)<;>intro h<;>try simp at h
 ·obtain rfl : i = l.length := by omega
  refine dv 5 ?_
  exact ⟨[_], rfl, rfl, HE.row rfl (by rw [List.take_length, List.drop_length, List.map_nil, List.append_nil]) HE.nil⟩
 obtain ⟨p, hp⟩ := gE l i
 have hAl : ((l.take i).map b6d).length = i := by rw [List.length_map, List.length_take]; omega
 rw [p6p hp, List.map_cons]
 have hat := e2u cPa hp
 have hcp : cPa p = p.sends.length + p.outs.length := rfl
 refine dv 7 fun K K' => ?_
 refine x2x (id := 1) a4k c0g rfl (dv 7 ?_)
 refine rlM [2, 3] [_, _] (c5s c p (by omega) (by omega)) rfl rfl rfl ?_
 refine b4h rfl rfl a6m rfl a4k rfl rfl hAl (b1n hAl rfl rfl a4k rfl rfl rfl rfl (f5g rfl rfl rfl) rfl ?_)
 refine dv 1 ?_
 refine u1u rfl rfl rfl (dv 1 ?_)
 exact ⟨i + 1, ⟨by omega, by omega⟩, [0, _, _, _], (Cov.cons' (t := 16) rfl (by rw [x9x (by omega) (by omega)]; rfl) Cov.nil), x6x, (HE.kill rfl (HE.kill rfl (HE.row rfl (by rw [z8z hp, List.map_append, List.append_assoc]; rfl) (HE.kill rfl HE.nil)))), x4x, rfl⟩
theorem c5t (c : Bool) (p : La) (hs : f1p p.done ≤ 1048576) : Meth Tryz.prog 115 1 [] [.agg (q1q c p)] [(0, (0, .dead))] (.agg [pI p.proc, pI p.base.x, pI p.base.y, pI p.base.count, .ref 0 0]) [(0, (0, .row 58 12 (p.done.map b6d)))] := by
 refine mX Tryz.f115 [.agg [pI p.proc, pI p.base.x, pI p.base.y, pI p.base.count, .ref 0 0]] 1 2 fun γ => ?_
 refine dv 1 ?_
 refine x8x (id := 1) rfl rfl rfl (x2x (id := 2) a0k a6r rfl (dv 3 ?_))
 refine rlM [0] [_] (b1d c p.done hs) rfl rfl rfl ?_
 refine dv 6 ?_
 exact ⟨[_], rfl, rfl, x4x⟩
theorem b1e (c : Bool) (l : List La) (hl : f1q l ≤ 1048576) : Meth Tryz.prog 244 1 [] [b9w c l, .fn (.func 115) [] []] [(0, (0, .dead))] (.ref 0 0) [(0, (0, .row 44 5 (l.map b1v)))] := by
 refine mX Tryz.f244 [.ref 0 0] 1 2 fun γ => ?_
 have hc : f1q l = l.length + szs cLa l := rfl
 refine u9u 0 rfl fun hlen => ?_
 refine dc 7 (fun K K' => aI ?_ ?_)<;>intro hc2<;>try simp at hc2
 ·obtain rfl : l = [] := List.eq_nil_of_length_eq_zero (by simpa using hc2)
  refine dv 2 ?_
  refine a1m 4 0 44 5 rfl rfl (dv 1 ?_)
  exact ⟨[_], rfl, rfl, x4x⟩
 refine dv 4 ?_
 refine c3h (id := 0) a8c rfl a0k a6r rfl rfl rfl rfl (by (simp only [s3s, r0r, r5r, r8r, a0p, a2m, T44]; omega)) rfl ?_
 refine dv 7 fun K K' => ?_
 refine x5x (ι := Nat) (fun i γ1 => [(16, pI (i : Int))]) (fun i γ1 => [(2, ((γ1 2), .dead)), (0, ((γ 0 + 1), .row 44 5 ((l.take i).map b1v ++ (l.drop i).map fun _ => [pI 0, pI 0, pI 0, pI 0, .pv (.slice none 0 0)]))), (1, ((γ1 1), .dead))]) (fun i => i ≤ l.length) (fun i => l.length - i) (q3q [1, 5, 14, 15] rfl) HE.nil 0 (by omega) [0, _, _] x6x (HE.kill rfl (HE.row rfl (by rw [List.take_zero, List.drop_zero, List.map_const']; rfl) (HE.kill rfl HE.nil))) rfl fun i γ1 hi => ?_
 refine dc 3 (fun K K' => aS ?_ ?_)<;>intro h<;>try simp at h
 ·obtain rfl : i = l.length := by omega
  refine dv 5 ?_
  exact ⟨[_], rfl, rfl, HE.row rfl (by rw [List.take_length, List.drop_length, List.map_nil, List.append_nil]) HE.nil⟩
 obtain ⟨p, hp⟩ := gE l i
 have hAl : ((l.take i).map b1v).length = i := by rw [List.length_map, List.length_take]; omega
 rw [p6p hp, List.map_cons]
 have hat := e2u cLa hp
 have hcp : cLa p = f1p p.done := rfl
 refine dv 7 fun K K' => ?_
 refine x2x (id := 1) a0k a6r rfl (dv 7 ?_)
 refine rlM [2] [_] (c5t c p (by omega)) rfl rfl rfl ?_
 refine b4h rfl rfl a8c rfl a0k rfl rfl hAl (b1n hAl rfl rfl a0k rfl rfl rfl rfl (f5h rfl) rfl ?_)
 refine dv 1 ?_
 refine u1u rfl rfl rfl (dv 1 ?_)
 exact ⟨i + 1, ⟨by omega, by omega⟩, [0, _, _], (Cov.cons' (t := 16) rfl (by rw [x9x (by omega) (by omega)]; rfl) Cov.nil), x6x, (HE.kill rfl (HE.row rfl (by rw [z8z hp, List.map_append, List.append_assoc]; rfl) (HE.kill rfl HE.nil))), x4x, rfl⟩
theorem c5u (c : Bool) (p : Vi) (hs : p.events.length ≤ 1048576) : Meth Tryz.prog 247 1 [] [.agg (a2l c p)] [(0, (0, .dead))] (.agg [pI p.inc, pI p.version, .ref 0 0]) [(0, (0, .row 56 7 (p.events.map y8y)))] := by
 refine mX Tryz.f247 [.agg [pI p.inc, pI p.version, .ref 0 0]] 1 2 fun γ => ?_
 refine dv 1 ?_
 refine x8x (id := 1) rfl rfl rfl (x2x (id := 2) s5s a6q rfl (dv 3 ?_))
 refine rlM [0] [_] (v2v c p.events (by omega)) rfl rfl rfl ?_
 refine dv 6 ?_
 exact ⟨[_], rfl, rfl, x4x⟩
theorem b1f (c : Bool) (l : List Vi) (hl : f1r l ≤ 1048576) : Meth Tryz.prog 246 1 [] [c1r c l, .fn (.func 247) [] []] [(0, (0, .dead))] (.ref 0 0) [(0, (0, .row 190 3 (l.map b1w)))] := by
 refine mX Tryz.f246 [.ref 0 0] 1 2 fun γ => ?_
 have hc : f1r l = l.length + szs cVi l := rfl
 refine u9u 0 rfl fun hlen => ?_
 refine dc 7 (fun K K' => aI ?_ ?_)<;>intro hc2<;>try simp at hc2
 ·obtain rfl : l = [] := List.eq_nil_of_length_eq_zero (by simpa using hc2)
  refine dv 2 ?_
  refine a1m 4 0 190 3 rfl rfl (dv 1 ?_)
  exact ⟨[_], rfl, rfl, x4x⟩
 refine dv 4 ?_
 refine c3h (id := 0) a9w rfl s5s a6q rfl rfl rfl rfl (by (simp only [s3s, r0r, r5r, r8r, a0p, a2m, T190]; omega)) rfl ?_
 refine dv 7 fun K K' => ?_
 refine x5x (ι := Nat) (fun i γ1 => [(16, pI (i : Int))]) (fun i γ1 => [(2, ((γ1 2), .dead)), (0, ((γ 0 + 1), .row 190 3 ((l.take i).map b1w ++ (l.drop i).map fun _ => [pI 0, pI 0, .pv (.slice none 0 0)]))), (1, ((γ1 1), .dead))]) (fun i => i ≤ l.length) (fun i => l.length - i) (q3q [1, 5, 14, 15] rfl) HE.nil 0 (by omega) [0, _, _] x6x (HE.kill rfl (HE.row rfl (by rw [List.take_zero, List.drop_zero, List.map_const']; rfl) (HE.kill rfl HE.nil))) rfl fun i γ1 hi => ?_
 refine dc 3 (fun K K' => aS ?_ ?_)<;>intro h<;>try simp at h
 ·obtain rfl : i = l.length := by omega
  refine dv 5 ?_
  exact ⟨[_], rfl, rfl, HE.row rfl (by rw [List.take_length, List.drop_length, List.map_nil, List.append_nil]) HE.nil⟩
 obtain ⟨p, hp⟩ := gE l i
 have hAl : ((l.take i).map b1w).length = i := by rw [List.length_map, List.length_take]; omega
 rw [p6p hp, List.map_cons]
 have hat := e2u cVi hp
 have hcp : cVi p = p.events.length := rfl
 refine dv 7 fun K K' => ?_
 refine x2x (id := 1) s5s a6q rfl (dv 7 ?_)
 refine rlM [2] [_] (c5u c p (by omega)) rfl rfl rfl ?_
 refine b4h rfl rfl a9w rfl s5s rfl rfl hAl (b1n hAl rfl rfl s5s rfl rfl rfl rfl (f5i rfl) rfl ?_)
 refine dv 1 ?_
 refine u1u rfl rfl rfl (dv 1 ?_)
 exact ⟨i + 1, ⟨by omega, by omega⟩, [0, _, _], (Cov.cons' (t := 16) rfl (by rw [x9x (by omega) (by omega)]; rfl) Cov.nil), x6x, (HE.kill rfl (HE.row rfl (by rw [z8z hp, List.map_append, List.append_assoc]; rfl) (HE.kill rfl HE.nil))), x4x, rfl⟩
theorem s9s (c : Bool) (n : Nd) (hl : cNd n ≤ 1048576) : Meth Tryz.prog 156 5 [] [.agg (u2u c n)] [(0, (0, .dead)), (1, (0, .dead)), (2, (0, .dead)), (3, (0, .dead)), (4, (0, .dead))] (.agg [pI n.id, .pv (.bool n.up), pI n.inc, pI n.g, .ref 0 0, .ref 1 0, .ref 2 0, pI n.led, pI n.version, .ref 3 0, .ref 4 0, pI n.round, pI n.low]) [(0, (0, .row 44 5 (n.lanes.map b1v))), (1, (0, .row 56 7 (n.kept.map y8y))), (2, (0, .row 141 5 (n.outs.map w3w))), (3, (0, .row 190 3 (n.views.map b1w))), (4, (0, .row 3 1 (n.known.map a3i)))] := by
 refine mX Tryz.f156 [.agg [pI n.id, .pv (.bool n.up), pI n.inc, pI n.g, .ref 0 0, .ref 1 0, .ref 2 0, pI n.led, pI n.version, .ref 3 0, .ref 4 0, pI n.round, pI n.low]] 5 2 fun γ => ?_
 have hc : cNd n = f1q n.lanes + n.kept.length + n.outs.length + f1r n.views + n.known.length := rfl
 refine dv 1 ?_
 refine x8x (id := 5) rfl rfl rfl (x2x (id := 6) u6u p9p rfl (dv 3 ?_))
 refine rlM [0] [_] (b1e c n.lanes (by omega)) rfl rfl rfl ?_
 refine dv 5 ?_
 refine rlM [1] [_] (v2v c n.kept (by omega)) rfl rfl rfl ?_
 refine dv 5 ?_
 refine rlM [2] [_] (a0m c n.outs (by omega)) rfl rfl rfl ?_
 refine dv 5 ?_
 refine rlM [3] [_] (b1f c n.views (by omega)) rfl rfl rfl ?_
 refine dv 5 ?_
 refine rlM [4] [_] (b4c c n.known (by omega)) rfl rfl rfl ?_
 refine dv 6 ?_
 exact ⟨[_, _, _, _, _], rfl, rfl, x4x⟩
end
end Go.Proofs.YtlgknoapdbpojaaGreat.Am
